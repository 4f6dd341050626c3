/- A region that draws its order, whose first operations come up one at a time (a slice laid, a first call), and whose others leave the world alone but for draws: one walk serves every order. Plain lemmas. -/
import Derived.StillTail
import Derived.Deep.Quiet
import Derived.Deep.QuietTactic
namespace Go.Proofs.YtelpdcggpahocaaDoor
section
variable {P : Program} {ops : Array Oper} {md : Region.Mode}
theorem wp_monoQ {o : Oper} {a : Act} {w : World} {K K' : Act → World → Prop} {Q Q' : Exit → Act → World → Prop} (h : ∀ a w, K a w → K' a w) (hp : ∀ c a w, Q (.panic c) a w → Q' (.panic c) a w) (ho : LetsOut Q → LetsOut Q')
    (hh : o.wp P a w K Q) : o.wp P a w K' Q' := by
  unfold Oper.wp at *
  generalize (execOp a.eval o).run P w = r at *
  cases r with
  | ok n w' =>
    cases n <;> simp only [Oper.upon] at hh ⊢ <;>
      first
        | exact h _ _ hh
        | exact Calls.mono hh (fun e w'' he => by cases e <;> first | exact h _ _ he | exact hp _ _ _ he | exact ho he)
        | exact Rows.mono hh (fun _ _ he => h _ _ he)
  | halt x w' => cases x <;> simp only [Oper.upon] at hh ⊢ <;> first | exact hp _ _ _ hh | exact hh
theorem wpOp_monoQ {i : Nat} {a : Act} {w : World} {K K' : Act → World → Prop} {Q Q' : Exit → Act → World → Prop} (h : ∀ a w, K a w → K' a w) (hp : ∀ c a w, Q (.panic c) a w → Q' (.panic c) a w) (ho : LetsOut Q → LetsOut Q')
    (hh : wpOp P ops Q i K a w) : wpOp P ops Q' i K' a w := by
  unfold wpOp at *
  split
  · exact h _ _ (by simpa [*] using hh)
  · rename_i o hoo
    simp only [hoo] at hh
    split
    · rename_i hw; simp only [hw, if_true] at hh; exact hh.imp (wp_monoQ h hp ho) (fun h => ⟨h.1, ho h.2⟩)
    · rename_i hw; simp only [hw] at hh; exact h _ _ hh
/-- The first n operations come up one at a time; behind them the lexical order serves. -/
def seqHead (md : Region.Mode) (ops : Array Oper) (g : Nat) : Nat → Nat → Array Bool → Bool
  | 0, k, listed => Region.lexFrom md ops g k listed
  | f + 1, k, listed => decide (Region.ready md ops listed = [k]) && seqHead md ops g f (k + 1) (listed.setIfInBounds k true)
def seqLexB (md : Region.Mode) (ops : Array Oper) (n : Nat) : Bool := Region.noSelect ops && decide (n ≤ ops.size) && seqHead md ops (ops.size - n) n 0 (Array.replicate ops.size false)
/-- What is asked behind the head: the quiet walk of the rest. -/
def ThenQuiet (P : Program) (ops : Array Oper) (l : List Oper) (Q : Exit → Act → World → Prop) : Exit → Act → World → Prop
  | .normal, a, w => wpQuiet P ops (fun w' => ∃ n, w' = w.drewN n) (fun a' => ∀ w', (∃ n, w' = w.drewN n) → Q .normal a' w') l a
  | e, a, w => Q e a w
theorem wpAny_of_seqHead {Q : Exit → Act → World → Prop} (hs : Region.noSelect ops = true) (l2 : List Oper) : ∀ (l1 : List Oper) (k : Nat) (listed : Array Bool) (a : Act) (w : World), (∀ j, (l1 ++ l2)[j]? = ops[k + j]?) →
    seqHead md ops l2.length l1.length k listed = true → wpList P ops (ThenQuiet P ops l2 Q) l1 a w → wpAny P md ops Q (l1.length + l2.length) listed a w
  | [], k, listed, a, w, hl, hB, h => by
    have h1 : wpQuiet P ops (fun w' => ∃ n, w' = w.drewN n) (fun a' => ∀ w', (∃ n, w' = w.drewN n) → Q .normal a' w') l2 a := h
    have h2 := wpAnyQ_lex (md := md) hs l2 k listed a (fun j => by simpa using hl j) hB h1
    have h3 := wpAny_of_quiet (Q := fun a' => ∀ w', (∃ n, w' = w.drewN n) → Q .normal a' w') (Q' := Q) (fun a' w' hw' hq => hq w' hw') _ _ _ w ⟨0, rfl⟩ h2
    simpa using h3
  | o :: l, k, listed, a, w, hl, hB, h => by
    have h0 : ops[k]? = some o := by simpa using (hl 0).symm
    simp only [List.length_cons, seqHead, Bool.and_eq_true, decide_eq_true_eq] at hB
    rw [show (o :: l).length + l2.length = (l.length + l2.length) + 1 by simp; omega]
    refine ⟨fun h1 => (by rw [hB.1] at h1; cases h1), fun i hi => ?_⟩
    rw [hB.1] at hi
    have hik : i = k := by simpa using hi
    subst hik
    have hw : wpOp P ops (ThenQuiet P ops l2 Q) i (wpList P ops (ThenQuiet P ops l2 Q) l) a w := by unfold wpOp; simp only [h0]; exact h
    exact wpOp_monoQ (fun a' w' h' => wpAny_of_seqHead hs l2 l (i + 1) _ a' w' (fun j => by have := hl (j + 1); simpa [Nat.add_assoc, Nat.add_comm 1 j] using this) hB.2 h') (fun c a' w' h' => h') (fun h' => h') hw
theorem wp_region_seq_quiet {id : Nat} {Q : Exit → Act → World → Prop} {a : Act} {w : World} {l : List Oper} (n : Nat) (hm : P.follows .mixedOrders = true) (hB : seqLexB .any l.toArray n = true)
    (h : wpList P l.toArray (ThenQuiet P l.toArray (l.drop n) Q) (l.take n) a w.drew) : (Code.region id l.toArray true).wp P Q a w := by
  simp only [seqLexB, Bool.and_eq_true, decide_eq_true_eq] at hB
  obtain ⟨⟨hs, hn⟩, hB⟩ := hB
  have hn' : n ≤ l.length := by simpa using hn
  have h1 : (l.take n).length = n := by simp; omega
  have h2 : (l.drop n).length = l.toArray.size - n := by simp
  refine wp_region_any hm ?_
  have := wpAny_of_seqHead (md := .any) (Q := Q) hs (l.drop n) (l.take n) 0 (Array.replicate l.toArray.size false) a w.drew (fun j => by rw [List.take_append_drop]; simp) (by rw [h1, h2]; exact hB) h
  rw [h1, h2, show n + (l.toArray.size - n) = l.toArray.size by omega] at this
  exact this
end
end Go.Proofs.YtelpdcggpahocaaDoor
