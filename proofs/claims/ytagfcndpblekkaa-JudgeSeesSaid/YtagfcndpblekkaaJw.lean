/- judge's See, whatever the command; judge's Check. -/
import Derived.Test.YtagfcndpblekkaaJv
namespace Go.Proofs.Ytagfcndpblekkaa
open Go.RowKit Go.Maps
set_option linter.unusedVariables false
set_option linter.unusedSimpArgs false
theorem wrR_le (seen : List Cmd) (b : Int) : wrR seen b ≤ seen.length := List.length_filter_le _ _
/-- A judge that has seen these commands. -/
def JQ (w : World) (a : JA) (Bn : Nat) (p s : Int) (m : List Bool) (clean : Bool) (seen : List Cmd) (n : Nat) : Prop := ∃ J, JP w a Bn (Bn : Int) p s J n ∧ Inv (Bn : Int) p m clean J seen
theorem JQ.frm {w w' : World} {a : JA} {Bn : Nat} {p s : Int} {m : List Bool} {clean : Bool} {seen : List Cmd} {n : Nat} {ex : Nat → Prop} (h : JQ w a Bn p s m clean seen n) (hf : Frm ex w w') (hx : ∀ k, a.own k → ¬ ex k) : JQ w' a Bn p s m clean seen n := by
  obtain ⟨J, h1, h2⟩ := h
  exact ⟨J, h1.frm hf hx, h2⟩
theorem JQ.bel {w w' : World} {a : JA} {Bn : Nat} {p s : Int} {m : List Bool} {clean : Bool} {seen : List Cmd} {n : Nat} (h : JQ w a Bn p s m clean seen n) (hb : Below w.heap.size w w') : JQ w' a Bn p s m clean seen n := h.frm (ex := fun _ => False) (Frm.of_below hb) (fun _ _ => id)
theorem JQ.lt {w : World} {a : JA} {Bn : Nat} {p s : Int} {m : List Bool} {clean : Bool} {seen : List Cmd} {n : Nat} (h : JQ w a Bn p s m clean seen n) : ∀ k, a.own k → k < w.heap.size := by
  obtain ⟨J, h1, h2⟩ := h
  exact h1.lt
/-- What is seen of it. -/
def nextS (B p : Int) (m : List Bool) (clean : Bool) (seen : List Cmd) (c : Cmd) : List Cmd := if kpR B p m clean seen c then seen ++ [c] else seen
theorem See_any (a : JA) (Bn : Nat) (p s : Int) (m : List Bool) (clean : Bool) (seen : List Cmd) (n : Nat) (c : Cmd) (w : World) (h : JQ w a Bn p s m clean seen n) (hc : CmdI c) (hn : n < maxLen) (hp0 : 0 ≤ p) (hp : p ≤ 256) (hs : seen.length ≤ 4611686018427387904) :
    Calls Try.prog 10 #[.pointer (some ⟨a.q, 0, none⟩), .agg #[.int .i64 c.k, .int .i64 c.b, .int .i64 c.p, .int .i64 c.s]] w fun e w' => e = .returned (.bool (kpR (Bn : Int) p m clean seen c)) ∧ JQ w' a Bn p s m clean (nextS (Bn : Int) p m clean seen c) (n + 1) ∧ Frm a.own w w' := by
  obtain ⟨J, hJ, hI⟩ := h
  have hlf : J.fl.length = Bn := by rw [hI.lf, Int.toNat_natCast]
  have hlt : J.tp.length = Bn := by rw [hI.lt, Int.toNat_natCast]
  have hlw : J.wr.length = Bn := by rw [hI.lw, Int.toNat_natCast]
  by_cases hk : KpP (Bn : Int) p J c
  · have hkR : kpR (Bn : Int) p m clean seen c = true := decide_eq_true ((kp_same hI c).1 hk)
    have hI' := inv_step hI c hk hp0
    unfold nextS
    rw [hkR, if_pos rfl]
    have hfin : Calls Try.prog 10 #[.pointer (some ⟨a.q, 0, none⟩), .agg #[.int .i64 c.k, .int .i64 c.b, .int .i64 c.p, .int .i64 c.s]] w (SeeP a Bn (Bn : Int) p s (stP p J c) (n + 1) true w) := by
      have hk' := hk
      obtain ⟨⟨g1, g2⟩, ⟨g3, g4⟩, _, _, _⟩ := hk'
      by_cases e1 : c.k = 1
      · exact See_1 a Bn (Bn : Int) p s J n c w hJ rfl hc hlf hlt hn hp hk e1
      by_cases e2 : c.k = 2
      · have htp := hI.tp c.b g3 g4
        have hwr := hI.wr c.b g3 g4
        have hle := wrR_le seen c.b
        exact See_2 a Bn (Bn : Int) p s J n c w hJ rfl hc hlf hlt hn hp hk e2 ⟨htp.1, by omega⟩ hlw (by rw [hwr]; omega)
      · exact See_3 a Bn (Bn : Int) p s J n c w hJ rfl hc hlf hlt hn hp hk (by omega)
    exact hfin.mono fun e w' ⟨h1, h2, h3⟩ => ⟨h1, ⟨_, h2, hI'⟩, h3⟩
  · have hkR : kpR (Bn : Int) p m clean seen c = false := decide_eq_false (fun q => hk ((kp_same hI c).2 q))
    unfold nextS
    rw [hkR, if_neg (by decide)]
    exact (See_no a Bn (Bn : Int) p s J n c w hJ rfl hc hlf hlt (decide_eq_false hk)).mono fun e w' ⟨h1, h2, h3⟩ => ⟨h1, ⟨J, h2.mono (Nat.le_succ n), hI⟩, h3⟩
/-- A new judge. -/
theorem New_jq (b p s : Int) (A : Option Addr) (n c : Nat) (m : List Bool) (clean : Bool) (w : World) (hml : m.length = n) (hr : Rd w A (bls m)) (h0 : newE b p s n = 0) :
    Calls Try.prog 24 #[.agg #[.int .i64 b, .int .i64 p, .int .i64 s], .slice A n c, .bool clean] w fun e w' => ∃ a : JA, e = .returned (.tuple #[.pointer (some ⟨a.q, 0, none⟩), .int .i64 0]) ∧ JQ w' a n p s m clean [] n ∧ (∀ k, a.own k → w.heap.size ≤ k) ∧ Below w.heap.size w w' := by
  have hz := newE_zero h0
  refine (New_ok b p s A n c m clean w hml hr h0).mono fun e w' ⟨a, h1, h2, h3, h4⟩ => ⟨a, h1, ⟨newK n p m clean n, by rw [hz.2]; exact h2, ?_⟩, h3, h4⟩
  have e : newK n p m clean n = newJ n p m clean := by
    unfold newK newJ
    congr 1
    · funext x
      by_cases h : 0 ≤ x ∧ m.getD x.toNat false = true
      · have hx : x.toNat < n := by
          rcases Nat.lt_or_ge x.toNat n with h5 | h5
          · exact h5
          · rw [List.getD_eq_getElem?_getD, List.getElem?_eq_none (by omega)] at h; exact absurd h.2 (by simp)
        rw [if_pos h, if_pos ⟨h.1, by omega, h.2⟩]
      · rw [if_neg h, if_neg (fun q => h ⟨q.1, q.2.2⟩)]
    · rw [Nat.sub_self, List.replicate_zero, List.append_nil]
  rw [e]
  exact inv_new n p m clean (by omega)
/-- Commands in memory. -/
def cmdV (l : List Cmd) : List Value := l.flatMap cmdC
theorem cmdV_len (l : List Cmd) : (cmdV l).length = 4 * l.length := by
  induction l with
  | nil => rfl
  | cons c r ih => unfold cmdV at *; rw [List.flatMap_cons, List.length_append, ih, List.length_cons]; simp [cmdC]; omega
theorem cmdV_at (l : List Cmd) (k j : Nat) (hk : k < l.length) (hj : j < 4) : (cmdV l)[4 * k + j]? = (cmdC (l.getD k ⟨0, 0, 0, 0⟩))[j]? := by
  induction l generalizing k with
  | nil => cases hk
  | cons c r ih =>
    have e : cmdV (c :: r) = cmdC c ++ cmdV r := by unfold cmdV; rw [List.flatMap_cons]
    rw [e]
    cases k with
    | zero => rw [List.getElem?_append_left (by simp [cmdC]; omega)]; simp
    | succ k =>
      rw [List.getElem?_append_right (by simp [cmdC]; omega), show 4 * (k + 1) + j - (cmdC c).length = 4 * k + j by simp [cmdC]; omega, ih k (by simpa using hk)]
      simp
theorem add_pos (ad : Addr) (i : Nat) (h : 0 < i) : ad.add i = ⟨ad.block, ad.off + i, none⟩ := by
  have : i ≠ 0 := by omega
  simp [Addr.add, this]
/-- The cells of the command number k. -/
theorem rd_cmd {w : World} {A : Option Addr} {l : List Cmd} (h : Rd w A (cmdV l)) (k : Nat) (hk : k < l.length) : ∃ ad, A = some ad ∧ w.cell? (ad.add (k * 4)) = some (.int .i64 (l.getD k ⟨0, 0, 0, 0⟩).k) ∧ w.cell? ⟨(ad.add (k * 4)).block, (ad.add (k * 4)).off + 1, none⟩ = some (.int .i64 (l.getD k ⟨0, 0, 0, 0⟩).b) ∧ w.cell? ⟨(ad.add (k * 4)).block, (ad.add (k * 4)).off + 2, none⟩ = some (.int .i64 (l.getD k ⟨0, 0, 0, 0⟩).p) ∧ w.cell? ⟨(ad.add (k * 4)).block, (ad.add (k * 4)).off + 3, none⟩ = some (.int .i64 (l.getD k ⟨0, 0, 0, 0⟩).s) := by
  obtain ⟨ad, rfl, h0⟩ := h.at_ (k := 4 * k + 0) (cmdV_at l k 0 hk (by omega))
  obtain ⟨_, e, h1⟩ := h.at_ (k := 4 * k + 1) (cmdV_at l k 1 hk (by omega))
  cases e
  obtain ⟨_, e, h2⟩ := h.at_ (k := 4 * k + 2) (cmdV_at l k 2 hk (by omega))
  cases e
  obtain ⟨_, e, h3⟩ := h.at_ (k := 4 * k + 3) (cmdV_at l k 3 hk (by omega))
  cases e
  have e1 : ∀ j, 0 < j → (⟨(ad.add (k * 4)).block, (ad.add (k * 4)).off + j, none⟩ : Addr) = ad.add (4 * k + j) := fun j hj => by
    rw [← add_pos _ j hj, Addr.add_add, Nat.mul_comm]
  refine ⟨ad, rfl, ?_, ?_, ?_, ?_⟩
  · rw [show k * 4 = 4 * k + 0 by omega]; exact h0
  · rw [e1 1 (by decide)]; exact h1
  · rw [e1 2 (by decide)]; exact h2
  · rw [e1 3 (by decide)]; exact h3
end Go.Proofs.Ytagfcndpblekkaa
