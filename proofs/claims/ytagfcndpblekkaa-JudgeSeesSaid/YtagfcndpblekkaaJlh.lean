/- Lists of commands: parts, more behind; what the laws JudgeLess and JudgeFronts need. -/
import Derived.Test.YtagfcndpblekkaaJae
import Derived.Test.YtagfcndpblekkaaJpl
import Derived.Deep.Grids
namespace Go.Proofs.Ytagfcndpblekkaa
open Go.RowKit Go.Maps
set_option linter.unusedVariables false
set_option linter.unusedSimpArgs false
/-- No command of that block stands between the place last and k. -/
def LastP (l : List Cmd) (K z : Int) (k : Nat) : Prop := ∀ j : Nat, z < j → j < k → (l.getD j ⟨0, 0, 0, 0⟩).b ≠ K
theorem less_len {l r : List Cmd} (h : Less l r) : r.length ≤ l.length := by
  induction h with
  | nil => exact Nat.le_refl _
  | keep c _ ih => simp; omega
  | drop c _ _ ih => simp; omega
theorem cmdsI_snoc {l : List Cmd} {c : Cmd} : CmdsI (l ++ [c]) ↔ CmdsI l ∧ CmdI c := by
  constructor
  · intro h
    refine ⟨fun k hk => ?_, ?_⟩
    · have := h k (by simp; omega)
      rwa [getD_app_l hk] at this
    · have := h l.length (by simp)
      rw [getD_app_r (Nat.le_refl _), Nat.sub_self] at this
      exact this
  · rintro ⟨h1, h2⟩ k hk
    simp at hk
    by_cases e : k < l.length
    · rw [getD_app_l e]; exact h1 k e
    · have : k = l.length := by omega
      rw [this, getD_app_r (Nat.le_refl _), Nat.sub_self]; exact h2
theorem less_I {l r : List Cmd} (h : Less l r) (hI : CmdsI l) : CmdsI r := by
  induction h with
  | nil => exact hI
  | keep c _ ih => exact cmdsI_snoc.2 ⟨ih (cmdsI_snoc.1 hI).1, (cmdsI_snoc.1 hI).2⟩
  | drop c _ _ ih => exact ih (cmdsI_snoc.1 hI).1
theorem cmdsI_app {l r : List Cmd} (h1 : CmdsI l) (h2 : CmdsI r) : CmdsI (l ++ r) := fun k hk => by
  rw [List.length_append] at hk
  by_cases e : k < l.length
  · rw [getD_app_l e]; exact h1 k e
  · rw [getD_app_r (by omega)]; exact h2 _ (by omega)
theorem cmdsI_take {l : List Cmd} (h : CmdsI l) (n : Nat) : CmdsI (l.take n) := fun k hk => by
  rw [List.length_take] at hk
  have := h k (by omega)
  rw [List.getD_eq_getElem?_getD] at this ⊢
  rwa [List.getElem?_take_of_lt (by omega)]
theorem cmdsI_drop {l : List Cmd} (h : CmdsI l) (n : Nat) : CmdsI (l.drop n) := fun k hk => by
  rw [List.length_drop] at hk
  have := h (n + k) (by omega)
  rw [List.getD_eq_getElem?_getD] at this ⊢
  rwa [List.getElem?_drop]
theorem cmdV_app (l m : List Cmd) : cmdV (l ++ m) = cmdV l ++ cmdV m := by unfold cmdV; rw [List.flatMap_append]
theorem rd_takeC {w : World} {A : Option Addr} {l : List Cmd} (h : Rd w A (cmdV l)) (n : Nat) : Rd w A (cmdV (l.take n)) := by
  rw [← List.take_append_drop n l, cmdV_app] at h
  exact rd_left h
theorem lay_frm0 {w wr w2 : World} {v v' : Value} (hb : Below w.heap.size w wr) (y : Lay wr w2 v v') (hv : ∀ k, v.ownBlock = some k → w.heap.size ≤ k) : Below w.heap.size w w2 ∧ ∀ k, v'.ownBlock = some k → w.heap.size ≤ k :=
  ⟨below_frm hb hb.size y.frm (fun k hk => hv k hk), fresh_appx hb.size hv y.at_⟩
theorem at_world {P : Program} {ops : Array Oper} {o : Oper} {a : Act} {K : Act → World → Prop} {Q : Exit → Act → World → Prop} {E : Prop} (w : World) (h : if Region.wanted o (yielded ops a.tmps) = true then Oper.wp P o a w K Q else E) : if Region.wanted o (yielded ops a.tmps) = true then Oper.wp P o a w K Q else E := h
set_option maxRecDepth 100000 in
theorem sl_fromC (A : Option Addr) (n c a : Nat) (h : a ≤ n) (hc : n ≤ c) (hcm : c ≤ maxLen) : ∃ A' c', (∀ wx, (Instr.slice 25 (.slice A n c) (some (.int .i64 (a : Int))) none none).run Try.prog wx = .ok (.slice A' (n - a) c') wx) ∧ ∀ wx l, l.length = n → Rd wx A (cmdV l) → Rd wx A' (cmdV (l.drop a)) := by
  refine ⟨if c = a then A else A.map (·.add (a * 4)), c - a, fun wx => ?_, fun wx l hl hr hne => ?_⟩
  · unfold maxLen at hcm
    rw [run_slice_l wx _ _ _ _ Try.underlying25 .i64 (a : Int) (by omega) (by omega), show (sizeOf (Try.prog.elem 25)).run Try.prog wx = .ok 4 wx from by kernel_rfl]
    simp [Result.andThen, sliced]
  · have hd : a < l.length := by
      rcases Nat.lt_or_ge a l.length with h | h
      · exact h
      · rw [List.drop_eq_nil_of_le h] at hne; exact absurd rfl hne
    rw [if_neg (by omega)]
    have hr2 := hr
    rw [← List.take_append_drop a l, cmdV_app] at hr
    obtain ⟨ad, rfl, hx⟩ := hr (fun e => hne (List.append_eq_nil_iff.1 e).2)
    refine ⟨_, rfl, fun j u hj => ?_⟩
    have := hx (a * 4 + j) u (by rw [List.getElem?_append_right (by rw [cmdV_len, List.length_take]; omega), cmdV_len, List.length_take, show a * 4 + j - 4 * min a l.length = j by omega]; exact hj)
    rw [Go.Deep.add_add]
    exact this
theorem owx_slice {w : World} {t : TypeId} {size n : Nat} {v : Value} {xs sp : List Value} (h : Owx w t size v n xs sp) : ∃ A c, v = .slice A n c ∧ Rd w A xs := by
  obtain ⟨A, c, h1, _, h2⟩ := h.rd
  exact ⟨A, c, h1, h2⟩
end Go.Proofs.Ytagfcndpblekkaa
