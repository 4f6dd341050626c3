/- Fix, the program's and the document's, of a list of another length than a sector's; and both at any length. -/
import Derived.Test.YtafjnkmfebibfaaDoorGd
namespace Go.Proofs.YtafjnkmfebibfaaDoor
open Go.RowKit
set_option linter.unusedVariables false
set_option linter.unusedSimpArgs false
set_option maxHeartbeats 1600000 in
theorem rFix_no (A : Option Addr) (n cap : Nat) (g : Nat) (w : World) (hn : n ≠ 256) (hm : n ≤ 140737488355328) :
    Calls Tryd.prog 8 #[.slice A n cap, tri g] w fun x w' => x = .returned (.tuple #[.slice none 0 0, tri 0, .int .i64 0, .int .i64 20]) ∧ Below w.heap.size w w' := by
  have hnn : ¬ ((n : Nat) : Int) = 256 := by omega
  clear hn
  obtain ⟨x0, x1, x2, hx⟩ := tri_eq g
  obtain ⟨w2, hw2⟩ : ∃ w2, w2 = (w.alloc (.cells #[.int .u8 x0, .int .u8 x1, .int .u8 x2] 23)).alloc (.cells #[.int .u8 0, .int .u8 0, .int .u8 0] 23) := ⟨_, rfl⟩
  have hB : Below w.heap.size w w2 := by rw [hw2]; exact ((Below.refl _ w).alloc (Nat.le_refl _) _).alloc (by simp) _
  have hbt : Blk w2 (w.heap.size + 1) 23 [.int .u8 0, .int .u8 0, .int .u8 0] := by
    have h := Blk.new (w.alloc (.cells #[.int .u8 x0, .int .u8 x1, .int .u8 x2] 23)) 23 [.int .u8 0, .int .u8 0, .int .u8 0]
    rw [World.size_alloc] at h
    rw [hw2]; exact h
  have htri : tri g = .agg #[.int .u8 x0, .int .u8 x1, .int .u8 x2] := by unfold tri; rw [hx]
  rw [htri]
  clear hx htri
  go_enter Tryd.func8, Tryd.ntmps8
  go_wp2
  rw [← hw2]
  refine bodyPost_ret (results_tctt rfl _ _ (w.heap.size + 1) 23 #[.int .u8 0, .int .u8 0, .int .u8 0] (0, 0) _ rfl hbt Tryd.underlying23 rfl (by kernel_rfl)) rfl ?_
  exact ⟨rfl, hB⟩
set_option maxHeartbeats 1600000 in
theorem Fix_no (A : Option Addr) (n cap : Nat) (g : Nat) (w : World) (hn : n ≠ 256) (hm : n ≤ 140737488355328) :
    Calls Tryd.prog 10 #[.slice A n cap, tri g] w fun x w' => x = .returned (.tuple #[.slice none 0 0, tri 0, .int .i64 0, .int .i64 20]) ∧ Below w.heap.size w w' := by
  have hnn : ¬ ((n : Nat) : Int) = 256 := by omega
  clear hn
  obtain ⟨x0, x1, x2, hx⟩ := tri_eq g
  obtain ⟨w2, hw2⟩ : ∃ w2, w2 = (w.alloc (.cells #[.int .u8 x0, .int .u8 x1, .int .u8 x2] 23)).alloc (.cells #[.int .u8 0, .int .u8 0, .int .u8 0] 23) := ⟨_, rfl⟩
  have hB : Below w.heap.size w w2 := by rw [hw2]; exact ((Below.refl _ w).alloc (Nat.le_refl _) _).alloc (by simp) _
  have hbt : Blk w2 (w.heap.size + 1) 23 [.int .u8 0, .int .u8 0, .int .u8 0] := by
    have h := Blk.new (w.alloc (.cells #[.int .u8 x0, .int .u8 x1, .int .u8 x2] 23)) 23 [.int .u8 0, .int .u8 0, .int .u8 0]
    rw [World.size_alloc] at h
    rw [hw2]; exact h
  have htri : tri g = .agg #[.int .u8 x0, .int .u8 x1, .int .u8 x2] := by unfold tri; rw [hx]
  rw [htri]
  clear hx htri
  go_enter Tryd.func10, Tryd.ntmps10
  go_wp2
  rw [← hw2]
  refine bodyPost_ret (results_tctt rfl _ _ (w.heap.size + 1) 23 #[.int .u8 0, .int .u8 0, .int .u8 0] (0, 0) _ rfl hbt Tryd.underlying23 rfl (by kernel_rfl)) rfl ?_
  exact ⟨rfl, hB⟩
/-- What Fix answers, of any list. -/
def FixAll (l : List UInt8) (g : Nat) (l' : List UInt8) (g' : Nat) (k e : Int) : Prop :=
  (l.length = 256 ∧ FixIs l g l' g' k e) ∨ (l.length ≠ 256 ∧ l' = [] ∧ g' = 0 ∧ k = 0 ∧ e = 20)
theorem fixAll_total (l : List UInt8) (g : Nat) (hg : g < 16777216) : ∃ l' g' k e, FixAll l g l' g' k e := by
  by_cases h : l.length = 256
  · obtain ⟨l', g', k, e, hf⟩ := fix_total l g hg
    exact ⟨l', g', k, e, .inl ⟨h, hf⟩⟩
  · exact ⟨[], 0, 0, 20, .inr ⟨h, rfl, rfl, rfl, rfl⟩⟩
theorem fixAll_len (l : List UInt8) (g : Nat) (l' : List UInt8) (g' : Nat) (k e : Int) (h : FixAll l g l' g' k e) : l'.length ≤ 256 := by
  rcases h with ⟨h, h2⟩ | ⟨_, rfl, _⟩
  · rcases h2 with ⟨_, rfl, _⟩ | ⟨_, _, _, rfl, _⟩ | ⟨m, _, _, rfl, _⟩ | ⟨_, rfl, _⟩
    · omega
    · omega
    · rw [flipB_len]; omega
    · decide
  · decide
theorem rFix_all (A : Option Addr) (n cap : Nat) (l : List UInt8) (g : Nat) (l' : List UInt8) (n' g' : Nat) (k e : Int) (x0 x1 x2 y0 y1 y2 : Int) (w : World) (hl : l.length = n) (hm : n ≤ 140737488355328) (hr : Rd w A (u8s l)) (hg : g < 16777216) (hf : FixAll l g l' g' k e) (hn' : l'.length = n')
    (hx : triC g = [.int .u8 x0, .int .u8 x1, .int .u8 x2]) (hy : triC g' = [.int .u8 y0, .int .u8 y1, .int .u8 y2]) :
    Calls Tryd.prog 8 #[.slice A n cap, .agg #[.int .u8 x0, .int .u8 x1, .int .u8 x2]] w fun x w' => ∃ A' c', x = .returned (.tuple #[.slice A' n' c', .agg #[.int .u8 y0, .int .u8 y1, .int .u8 y2], .int .i64 k, .int .i64 e]) ∧ Rd w' A' (u8s l') ∧ Below w.heap.size w w' ∧ (A' = A ∨ ∀ ad, A' = some ad → w.heap.size ≤ ad.block) := by
  have h1 : tri g = .agg #[.int .u8 x0, .int .u8 x1, .int .u8 x2] := by unfold tri; rw [hx]
  have h2 : tri g' = .agg #[.int .u8 y0, .int .u8 y1, .int .u8 y2] := by unfold tri; rw [hy]
  rw [← h1, ← h2, ← hn']
  rcases hf with ⟨h, hf⟩ | ⟨h, rfl, rfl, rfl, rfl⟩
  · exact rFix_any A n cap l g l' g' k e w hl (by omega) hr hg hf
  · exact (rFix_no A n cap g w (by omega) hm).mono fun x w' ⟨h3, h4⟩ => ⟨none, 0, h3, Rd.nil _ _, h4, .inr (fun ad h => by cases h)⟩
theorem Fix_all (A : Option Addr) (n cap : Nat) (l : List UInt8) (g : Nat) (l' : List UInt8) (n' g' : Nat) (k e : Int) (x0 x1 x2 y0 y1 y2 : Int) (w : World) (hl : l.length = n) (hm : n ≤ 140737488355328) (hr : Rd w A (u8s l)) (hg : g < 16777216) (hT : Tab w) (hf : FixAll l g l' g' k e) (hn' : l'.length = n')
    (hx : triC g = [.int .u8 x0, .int .u8 x1, .int .u8 x2]) (hy : triC g' = [.int .u8 y0, .int .u8 y1, .int .u8 y2]) :
    Calls Tryd.prog 10 #[.slice A n cap, .agg #[.int .u8 x0, .int .u8 x1, .int .u8 x2]] w fun x w' => ∃ A' c' sp, x = .returned (.tuple #[.slice A' n' c', .agg #[.int .u8 y0, .int .u8 y1, .int .u8 y2], .int .i64 k, .int .i64 e]) ∧ Own w' 5 1 (.slice A' n' c') n' (u8s l') sp ∧ (∀ q, (Value.slice A' n' c').ownBlock = some q → w.heap.size ≤ q) ∧ Below w.heap.size w w' := by
  have h1 : tri g = .agg #[.int .u8 x0, .int .u8 x1, .int .u8 x2] := by unfold tri; rw [hx]
  have h2 : tri g' = .agg #[.int .u8 y0, .int .u8 y1, .int .u8 y2] := by unfold tri; rw [hy]
  rw [← h1, ← h2]
  subst hn'
  rcases hf with ⟨h, hf⟩ | ⟨h, rfl, rfl, rfl, rfl⟩
  · refine (Fix_any A n cap l g l' g' k e w hl (by omega) hr hg hT hf).mono fun x w' ⟨v, sp, h3, h4, h5, h6⟩ => ?_
    obtain ⟨A', c', rfl, _, _⟩ := h4.rd
    exact ⟨A', c', sp, h3, h4, h5, h6⟩
  · exact (Fix_no A n cap g w (by omega) hm).mono fun x w' ⟨h3, h4⟩ => ⟨none, 0, [], h3, .inl ⟨rfl, rfl, rfl, rfl⟩, fun q hq => (by cases hq), h4⟩
end Go.Proofs.YtafjnkmfebibfaaDoor
