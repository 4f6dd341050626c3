/- Plain words on a judge: the document's and the program's, and that they agree. -/
import Derived.Test.YtagfcndpblekkaaSpec
namespace Go.Proofs.Ytagfcndpblekkaa
set_option linter.unusedVariables false
set_option linter.unusedSimpArgs false
structure Cmd where
  k : Int
  b : Int
  p : Int
  s : Int
deriving DecidableEq
/-- Is the block marked, of old or by a command that was seen? -/
def mkS (c : Cmd) (b : Int) : Bool := decide (c.k = 3 ∧ c.b = b ∧ c.s = 0)
def mkR (m : List Bool) (seen : List Cmd) (b : Int) : Bool := m.getD b.toNat false || seen.any (fun c => mkS c b)
/-- The least page that may be programmed, command by command. -/
def nxS (pg b : Int) (n : Int) (c : Cmd) : Int := if c.b = b then (if c.k = 2 then (if c.s = 0 then 0 else pg) else if c.k = 1 then c.p + 1 else n) else n
def nx0 (pg : Int) (clean : Bool) : Int := if clean then 0 else pg
def nxR (pg : Int) (clean : Bool) (seen : List Cmd) (b : Int) : Int := seen.foldl (nxS pg b) (nx0 pg clean)
def okS (s : Int) : Prop := s = 0 ∨ s = 44 ∨ s = 45
/-- Does the command keep the rules? -/
def KpR (B pg : Int) (m : List Bool) (clean : Bool) (seen : List Cmd) (c : Cmd) : Prop :=
  (1 ≤ c.k ∧ c.k ≤ 3) ∧ (0 ≤ c.b ∧ c.b < B) ∧ okS c.s ∧ (c.k ≠ 3 → mkR m seen c.b = false) ∧ (c.k = 1 → nxR pg clean seen c.b ≤ c.p ∧ c.p < pg)
instance (B pg : Int) (m : List Bool) (clean : Bool) (seen : List Cmd) (c : Cmd) : Decidable (KpR B pg m clean seen c) := by unfold KpR okS; infer_instance
def kpR (B pg : Int) (m : List Bool) (clean : Bool) (seen : List Cmd) (c : Cmd) : Bool := decide (KpR B pg m clean seen c)
/-- How often the block was erased. -/
def wrR (seen : List Cmd) (b : Int) : Nat := (seen.filter (fun c => decide (c.k = 2 ∧ c.b = b))).length
/-- What the program's judge holds. -/
structure JS where
  ma : Int → Int
  tr : Int → Int → Int
  fl : List Int
  tp : List Int
  wr : List Int
def at0 (l : List Int) (i : Int) : Int := l.getD i.toNat 0
def lsP (J : JS) (b : Int) : Int := if at0 J.fl b ≤ at0 J.tp b then at0 J.tp b else at0 J.fl b
def KpP (B pg : Int) (J : JS) (c : Cmd) : Prop :=
  (1 ≤ c.k ∧ c.k ≤ 3) ∧ (0 ≤ c.b ∧ c.b < B) ∧ okS c.s ∧ (c.k ≠ 3 → J.ma c.b = 0) ∧ (c.k = 1 → lsP J c.b ≤ c.p ∧ c.p < pg ∧ J.tr c.b c.p = 0)
def stP (pg : Int) (J : JS) (c : Cmd) : JS :=
  if c.k = 1 then { J with tr := fun x y => if x = c.b ∧ y = c.p then 1 else J.tr x y, tp := J.tp.set c.b.toNat (c.p + 1) }
  else if c.k = 2 then { ma := J.ma, tr := fun x y => if x = c.b ∧ 0 ≤ y ∧ y < at0 J.tp c.b then 0 else J.tr x y, wr := J.wr.set c.b.toNat (at0 J.wr c.b + 1), tp := J.tp.set c.b.toNat 0, fl := J.fl.set c.b.toNat (if c.s = 0 then 0 else pg) }
  else if c.s = 0 then { J with ma := fun x => if x = c.b then 1 else J.ma x } else J
structure Inv (B pg : Int) (m : List Bool) (clean : Bool) (J : JS) (seen : List Cmd) : Prop where
  lf : J.fl.length = B.toNat
  lt : J.tp.length = B.toNat
  lw : J.wr.length = B.toNat
  ma : ∀ b, 0 ≤ b → b < B → (J.ma b = 0 ↔ mkR m seen b = false)
  ls : ∀ b, 0 ≤ b → b < B → lsP J b = nxR pg clean seen b
  tr : ∀ b p, 0 ≤ b → b < B → J.tr b p ≠ 0 → 0 ≤ p ∧ p < at0 J.tp b
  fl : ∀ b, 0 ≤ b → b < B → 0 ≤ at0 J.fl b ∧ at0 J.fl b ≤ pg
  tp : ∀ b, 0 ≤ b → b < B → 0 ≤ at0 J.tp b ∧ at0 J.tp b ≤ pg
  wr : ∀ b, 0 ≤ b → b < B → at0 J.wr b = (wrR seen b : Nat)
theorem at0_set (l : List Int) (b b' v : Int) (h : 0 ≤ b) (hl : b.toNat < l.length) (h' : 0 ≤ b') : at0 (l.set b.toNat v) b' = if b' = b then v else at0 l b' := by
  unfold at0
  rw [List.getD_eq_getElem?_getD, List.getElem?_set]
  by_cases e : b' = b
  · subst e
    simp [hl]
  · rw [if_neg (by omega), if_neg e, List.getD_eq_getElem?_getD]
theorem nxR_snoc (pg : Int) (clean : Bool) (seen : List Cmd) (c : Cmd) (b : Int) : nxR pg clean (seen ++ [c]) b = nxS pg b (nxR pg clean seen b) c := by
  unfold nxR; rw [List.foldl_append]; rfl
theorem mkR_snoc (m : List Bool) (seen : List Cmd) (c : Cmd) (b : Int) : mkR m (seen ++ [c]) b = (mkR m seen b || mkS c b) := by
  unfold mkR; rw [List.any_append]; simp [Bool.or_assoc]
theorem wrR_snoc (seen : List Cmd) (c : Cmd) (b : Int) : wrR (seen ++ [c]) b = wrR seen b + if c.k = 2 ∧ c.b = b then 1 else 0 := by
  unfold wrR
  rw [List.filter_append, List.length_append]
  congr 1
  by_cases h : c.k = 2 ∧ c.b = b <;> simp [h]
theorem kp_same {B pg : Int} {m : List Bool} {clean : Bool} {J : JS} {seen : List Cmd} (h : Inv B pg m clean J seen) (c : Cmd) : KpP B pg J c ↔ KpR B pg m clean seen c := by
  unfold KpP KpR
  constructor
  · rintro ⟨h1, h2, h3, h4, h5⟩
    refine ⟨h1, h2, h3, fun e => (h.ma _ h2.1 h2.2).1 (h4 e), fun e => ?_⟩
    obtain ⟨q1, q2, _⟩ := h5 e
    rw [h.ls _ h2.1 h2.2] at q1
    exact ⟨q1, q2⟩
  · rintro ⟨h1, h2, h3, h4, h5⟩
    refine ⟨h1, h2, h3, fun e => (h.ma _ h2.1 h2.2).2 (h4 e), fun e => ?_⟩
    obtain ⟨q1, q2⟩ := h5 e
    rw [← h.ls _ h2.1 h2.2] at q1
    refine ⟨q1, q2, ?_⟩
    apply Decidable.byContradiction
    intro hne
    have := h.tr _ _ h2.1 h2.2 hne
    unfold lsP at q1
    split at q1 <;> omega
theorem inv_step {B pg : Int} {m : List Bool} {clean : Bool} {J : JS} {seen : List Cmd} (h : Inv B pg m clean J seen) (c : Cmd) (hk : KpP B pg J c) (hpg : 0 ≤ pg) : Inv B pg m clean (stP pg J c) (seen ++ [c]) := by
  obtain ⟨h1, h2, h3, h4, h5⟩ := hk
  have hbf : c.b.toNat < J.fl.length := by rw [h.lf]; omega
  have hbt : c.b.toNat < J.tp.length := by rw [h.lt]; omega
  have hbw : c.b.toNat < J.wr.length := by rw [h.lw]; omega
  have hT := h.tp c.b h2.1 h2.2
  have hF := h.fl c.b h2.1 h2.2
  unfold stP
  by_cases e1 : c.k = 1
  · rw [if_pos e1]
    obtain ⟨q1, q2, q3⟩ := h5 e1
    have hls : at0 J.fl c.b ≤ c.p ∧ at0 J.tp c.b ≤ c.p := by unfold lsP at q1; split at q1 <;> omega
    refine ⟨h.lf, by simp [h.lt], h.lw, fun b g1 g2 => ?_, fun b g1 g2 => ?_, fun b p g1 g2 hne => ?_, h.fl, fun b g1 g2 => ?_, fun b g1 g2 => ?_⟩
    · rw [mkR_snoc, show mkS c b = false from decide_eq_false (by omega), Bool.or_false]
      exact h.ma b g1 g2
    · rw [nxR_snoc, ← h.ls b g1 g2]
      unfold nxS lsP
      simp only [at0_set _ _ _ _ h2.1 hbt g1]
      by_cases e : b = c.b
      · subst e
        simp only [if_true]
        rw [if_neg (show ¬ c.k = 2 by omega), if_pos e1, if_pos (by omega)]
      · simp only [if_neg e, if_neg (fun q : c.b = b => e q.symm)]
    · simp only [at0_set _ _ _ _ h2.1 hbt g1]
      by_cases e : b = c.b
      · subst e
        rw [if_pos rfl]
        by_cases ep : p = c.p
        · omega
        · simp only [ep, and_false, if_false] at hne
          have := h.tr _ _ g1 g2 hne
          omega
      · simp only [e, false_and, if_false] at hne ⊢
        exact h.tr _ _ g1 g2 hne
    · simp only [at0_set _ _ _ _ h2.1 hbt g1]
      split
      · omega
      · exact h.tp b g1 g2
    · rw [wrR_snoc, if_neg (by omega)]
      exact h.wr b g1 g2
  · by_cases e2 : c.k = 2
    · rw [if_neg e1, if_pos e2]
      refine ⟨by simp [h.lf], by simp [h.lt], by simp [h.lw], fun b g1 g2 => ?_, fun b g1 g2 => ?_, fun b p g1 g2 hne => ?_, fun b g1 g2 => ?_, fun b g1 g2 => ?_, fun b g1 g2 => ?_⟩
      · rw [mkR_snoc, show mkS c b = false from decide_eq_false (by omega), Bool.or_false]
        exact h.ma b g1 g2
      · rw [nxR_snoc, ← h.ls b g1 g2]
        unfold nxS lsP
        simp only [at0_set _ _ _ _ h2.1 hbt g1, at0_set _ _ _ _ h2.1 hbf g1]
        by_cases e : b = c.b
        · subst e
          simp only [if_true, e2]
          split <;> split <;> omega
        · simp only [if_neg e, if_neg (fun q : c.b = b => e q.symm)]
      · simp only [at0_set _ _ _ _ h2.1 hbt g1]
        by_cases e : b = c.b
        · subst e
          simp only [true_and] at hne
          split at hne
          · exact absurd rfl hne
          · rename_i hn
            have := h.tr _ _ g1 g2 hne
            exact absurd this hn
        · simp only [e, false_and, if_false] at hne ⊢
          exact h.tr _ _ g1 g2 hne
      · simp only [at0_set _ _ _ _ h2.1 hbf g1]
        split
        · split <;> omega
        · exact h.fl b g1 g2
      · simp only [at0_set _ _ _ _ h2.1 hbt g1]
        split
        · omega
        · exact h.tp b g1 g2
      · simp only [at0_set _ _ _ _ h2.1 hbw g1]
        rw [wrR_snoc]
        by_cases e : b = c.b
        · subst e
          rw [if_pos rfl, if_pos ⟨e2, rfl⟩, h.wr _ g1 g2]
          omega
        · rw [if_neg e, if_neg (fun q => e q.2.symm)]
          exact h.wr b g1 g2
    · have e3 : c.k = 3 := by omega
      rw [if_neg e1, if_neg e2]
      have hnx : ∀ b, nxR pg clean (seen ++ [c]) b = nxR pg clean seen b := fun b => by
        rw [nxR_snoc]
        unfold nxS
        rw [if_neg e2, if_neg e1]
        split <;> rfl
      have hwr : ∀ b, wrR (seen ++ [c]) b = wrR seen b := fun b => by rw [wrR_snoc, if_neg (by omega)]; rfl
      by_cases es : c.s = 0
      · rw [if_pos es]
        refine ⟨h.lf, h.lt, h.lw, fun b g1 g2 => ?_, fun b g1 g2 => by rw [hnx]; exact h.ls b g1 g2, h.tr, h.fl, h.tp, fun b g1 g2 => by rw [hwr]; exact h.wr b g1 g2⟩
        rw [mkR_snoc]
        by_cases e : b = c.b
        · subst e
          rw [show mkS c c.b = true from decide_eq_true ⟨e3, rfl, es⟩]
          simp
        · rw [show mkS c b = false from decide_eq_false (fun q => e q.2.1.symm), Bool.or_false]
          simp only [e, if_false]
          exact h.ma b g1 g2
      · rw [if_neg es]
        refine ⟨h.lf, h.lt, h.lw, fun b g1 g2 => ?_, fun b g1 g2 => by rw [hnx]; exact h.ls b g1 g2, h.tr, h.fl, h.tp, fun b g1 g2 => by rw [hwr]; exact h.wr b g1 g2⟩
        rw [mkR_snoc, show mkS c b = false from decide_eq_false (fun q => es q.2.2), Bool.or_false]
        exact h.ma b g1 g2
/-- A new judge's state. -/
def newJ (Bn : Nat) (pg : Int) (m : List Bool) (clean : Bool) : JS :=
  { ma := fun x => if 0 ≤ x ∧ m.getD x.toNat false = true then 1 else 0, tr := fun _ _ => 0, fl := List.replicate Bn (nx0 pg clean), tp := List.replicate Bn 0, wr := List.replicate Bn 0 }
theorem at0_rep (Bn : Nat) (v b : Int) (h : 0 ≤ b) (h2 : b < Bn) : at0 (List.replicate Bn v) b = v := by
  unfold at0
  rw [List.getD_eq_getElem?_getD, List.getElem?_replicate, if_pos (by omega)]; rfl
theorem inv_new (Bn : Nat) (pg : Int) (m : List Bool) (clean : Bool) (hpg : 0 ≤ pg) : Inv (Bn : Int) pg m clean (newJ Bn pg m clean) [] := by
  have h0 : 0 ≤ nx0 pg clean ∧ nx0 pg clean ≤ pg := by unfold nx0; split <;> omega
  refine ⟨by simp [newJ], by simp [newJ], by simp [newJ], fun b g1 g2 => ?_, fun b g1 g2 => ?_, fun b p g1 g2 hne => absurd rfl hne, fun b g1 g2 => ?_, fun b g1 g2 => ?_, fun b g1 g2 => ?_⟩
  · unfold newJ mkR
    simp only [g1, true_and, List.any_nil, Bool.or_false]
    cases m.getD b.toNat false <;> simp
  · unfold lsP newJ nxR
    simp only [at0_rep _ _ _ g1 g2, List.foldl_nil]
    split <;> omega
  · simp only [newJ, at0_rep _ _ _ g1 g2]; exact h0
  · simp only [newJ, at0_rep _ _ _ g1 g2]; omega
  · simp only [newJ, at0_rep _ _ _ g1 g2]; rfl
/-- The first of n numbers at which f is false; -1: none. -/
def fstN (f : Nat → Bool) : Nat → Nat → Int
  | 0, _ => -1
  | n + 1, i => if f i then fstN f n (i + 1) else i
theorem fst_all (f : Nat → Bool) : ∀ n i, (∀ j, i ≤ j → j < i + n → f j = true) → fstN f n i = -1
  | 0, _, _ => rfl
  | n + 1, i, h => by
    unfold fstN
    rw [if_pos (h i (by omega) (by omega))]
    exact fst_all f n (i + 1) (fun j h1 h2 => h j (by omega) (by omega))
theorem fst_at (f : Nat → Bool) : ∀ n i k, i ≤ k → k < i + n → (∀ j, i ≤ j → j < k → f j = true) → f k = false → fstN f n i = (k : Nat)
  | 0, i, k, h1, h2, _, _ => by omega
  | n + 1, i, k, h1, h2, h3, h4 => by
    unfold fstN
    by_cases e : k = i
    · subst e
      rw [h4]; simp
    · rw [if_pos (h3 i (by omega) (by omega))]
      exact fst_at f n (i + 1) k (by omega) (by omega) (fun j g1 g2 => h3 j (by omega) g2) h4
/-- The place of the first command of a trace that does not keep the rules. -/
def ckF (B pg : Int) (m : List Bool) (clean : Bool) (l : List Cmd) (j : Nat) : Bool := kpR B pg m clean (l.take j) (l.getD j ⟨0, 0, 0, 0⟩)
def ckR (B pg : Int) (m : List Bool) (clean : Bool) (l : List Cmd) : Int := fstN (ckF B pg m clean l) l.length 0
/-- May the geometry be? What New tells. -/
def fitG (b p s : Int) : Bool := decide (8 ≤ b ∧ b ≤ 4096 ∧ 4 ≤ p ∧ p ≤ 256 ∧ 1 ≤ s ∧ s ≤ 8 ∧ b * p ≤ 65536)
def newE (b p s : Int) (n : Nat) : Int := if fitG b p s then (if (n : Int) = b then 0 else 41) else 40
theorem newE_zero {b p s : Int} {n : Nat} (h : newE b p s n = 0) : (8 ≤ b ∧ b ≤ 4096 ∧ 4 ≤ p ∧ p ≤ 256 ∧ 1 ≤ s ∧ s ≤ 8 ∧ b * p ≤ 65536) ∧ (n : Int) = b := by
  unfold newE at h
  split at h
  · rename_i h1
    split at h
    · rename_i h2; exact ⟨of_decide_eq_true h1, h2⟩
    · cases h
  · cases h
end Go.Proofs.Ytagfcndpblekkaa
