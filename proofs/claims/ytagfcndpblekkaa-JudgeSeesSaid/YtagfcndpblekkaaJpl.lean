/- Plain laws on the place of the first command that breaks the rules: fronts, more behind, a mark put in, commands left out. -/
import Derived.Test.YtagfcndpblekkaaJx
namespace Go.Proofs.Ytagfcndpblekkaa
set_option linter.unusedVariables false
set_option linter.unusedSimpArgs false
theorem fst_cases (f : Nat → Bool) : ∀ n i, (fstN f n i = -1 ∧ ∀ j, i ≤ j → j < i + n → f j = true) ∨ ∃ k, i ≤ k ∧ k < i + n ∧ fstN f n i = (k : Nat) ∧ (∀ j, i ≤ j → j < k → f j = true) ∧ f k = false
  | 0, i => .inl ⟨rfl, fun j h1 h2 => by omega⟩
  | n + 1, i => by
    unfold fstN
    cases h : f i with
    | false => exact .inr ⟨i, by omega, by omega, by simp, fun j h1 h2 => by omega, h⟩
    | true =>
      rw [if_pos rfl]
      rcases fst_cases f n (i + 1) with ⟨h1, h2⟩ | ⟨k, h1, h2, h3, h4, h5⟩
      · refine .inl ⟨h1, fun j g1 g2 => ?_⟩
        by_cases e : j = i
        · rw [e]; exact h
        · exact h2 j (by omega) (by omega)
      · refine .inr ⟨k, by omega, by omega, h3, fun j g1 g2 => ?_, h5⟩
        by_cases e : j = i
        · rw [e]; exact h
        · exact h4 j (by omega) g2
section
variable {B pg : Int} {m : List Bool} {clean : Bool}
theorem ck_cases (l : List Cmd) : (ckR B pg m clean l = -1 ∧ ∀ j, j < l.length → ckF B pg m clean l j = true) ∨ ∃ k, k < l.length ∧ ckR B pg m clean l = (k : Nat) ∧ (∀ j, j < k → ckF B pg m clean l j = true) ∧ ckF B pg m clean l k = false := by
  rcases fst_cases (ckF B pg m clean l) l.length 0 with ⟨h1, h2⟩ | ⟨k, h1, h2, h3, h4, h5⟩
  · exact .inl ⟨h1, fun j h => h2 j (by omega) (by omega)⟩
  · exact .inr ⟨k, by omega, h3, fun j h => h4 j (by omega) h, h5⟩
theorem ck_all {l : List Cmd} (h : ∀ j, j < l.length → ckF B pg m clean l j = true) : ckR B pg m clean l = -1 := fst_all _ _ _ (fun j _ h2 => h j (by omega))
theorem ck_at {l : List Cmd} {k : Nat} (hk : k < l.length) (h : ∀ j, j < k → ckF B pg m clean l j = true) (hf : ckF B pg m clean l k = false) : ckR B pg m clean l = (k : Nat) := fst_at _ _ _ _ (by omega) (by omega) (fun j _ h2 => h j h2) hf
theorem getD_app_l {l r : List Cmd} {j : Nat} (h : j < l.length) : (l ++ r).getD j ⟨0, 0, 0, 0⟩ = l.getD j ⟨0, 0, 0, 0⟩ := by
  rw [List.getD_eq_getElem?_getD, List.getD_eq_getElem?_getD, List.getElem?_append_left h]
theorem getD_app_r {l r : List Cmd} {j : Nat} (h : l.length ≤ j) : (l ++ r).getD j ⟨0, 0, 0, 0⟩ = r.getD (j - l.length) ⟨0, 0, 0, 0⟩ := by
  rw [List.getD_eq_getElem?_getD, List.getD_eq_getElem?_getD, List.getElem?_append_right h]
theorem ckF_app {l r : List Cmd} {j : Nat} (h : j < l.length) : ckF B pg m clean (l ++ r) j = ckF B pg m clean l j := by
  unfold ckF
  rw [getD_app_l h, List.take_append_of_le_length (by omega)]
/-- A front of a trace. -/
theorem ck_front (l : List Cmd) (at_ : Nat) (h : at_ ≤ l.length) : ckR B pg m clean (l.take at_) = if 0 ≤ ckR B pg m clean l ∧ ckR B pg m clean l < at_ then ckR B pg m clean l else -1 := by
  have e := List.take_append_drop at_ l
  have hl : (l.take at_).length = at_ := by rw [List.length_take]; omega
  have hF : ∀ j, j < at_ → ckF B pg m clean (l.take at_) j = ckF B pg m clean l j := fun j hj => by
    conv => rhs; rw [← e]
    exact (ckF_app (by omega)).symm
  rcases ck_cases (B := B) (pg := pg) (m := m) (clean := clean) l with ⟨h1, h2⟩ | ⟨k, h1, h2, h3, h4⟩
  · rw [h1, if_neg (by omega)]
    exact ck_all (fun j hj => by rw [hF j (by omega)]; exact h2 j (by omega))
  · rw [h2]
    by_cases hk : k < at_
    · rw [if_pos (by omega)]
      exact ck_at (by omega) (fun j hj => by rw [hF j (by omega)]; exact h3 j hj) (by rw [hF k hk]; exact h4)
    · rw [if_neg (by omega)]
      exact ck_all (fun j hj => by rw [hF j (by omega)]; exact h3 j (by omega))
/-- More behind a trace. -/
theorem ck_longer (l r : List Cmd) : (ckR B pg m clean l < 0 → ckR B pg m clean (l ++ r) = -1 ∨ (l.length : Int) ≤ ckR B pg m clean (l ++ r)) ∧ (0 ≤ ckR B pg m clean l → ckR B pg m clean (l ++ r) = ckR B pg m clean l) := by
  rcases ck_cases (B := B) (pg := pg) (m := m) (clean := clean) l with ⟨h1, h2⟩ | ⟨k, h1, h2, h3, h4⟩
  · refine ⟨fun _ => ?_, fun h => by omega⟩
    rcases ck_cases (B := B) (pg := pg) (m := m) (clean := clean) (l ++ r) with ⟨g1, g2⟩ | ⟨k, g1, g2, g3, g4⟩
    · exact .inl g1
    · right
      rw [g2]
      rcases Nat.lt_or_ge k l.length with h | h
      · rw [ckF_app h, h2 k h] at g4; cases g4
      · omega
  · refine ⟨fun h => by omega, fun _ => ?_⟩
    rw [h2]
    exact ck_at (by rw [List.length_append]; omega) (fun j hj => by rw [ckF_app (by omega)]; exact h3 j hj) (by rw [ckF_app h1]; exact h4)
theorem kp_congr {s1 s2 : List Cmd} {c : Cmd} (h1 : mkR m s1 c.b = mkR m s2 c.b) (h2 : nxR pg clean s1 c.b = nxR pg clean s2 c.b) : kpR B pg m clean s1 c = kpR B pg m clean s2 c := by
  have e : KpR B pg m clean s1 c ↔ KpR B pg m clean s2 c := by
    unfold KpR
    rw [h1, h2]
  unfold kpR
  exact decide_eq_decide.2 e
theorem mkR_mid (A D : List Cmd) (x : Cmd) (b : Int) (h : mkS x b = false) : mkR m (A ++ ([x] ++ D)) b = mkR m (A ++ D) b := by
  unfold mkR
  simp [List.any_append, h]
theorem nxR_mid (A D : List Cmd) (x : Cmd) (b : Int) (h : ∀ n, nxS pg b n x = n) : nxR pg clean (A ++ ([x] ++ D)) b = nxR pg clean (A ++ D) b := by
  unfold nxR
  simp [List.foldl_append, h]
/-- A command put in ahead of C that keeps the rules and changes nothing for those behind it. -/
theorem ckF_mid (A C : List Cmd) (x : Cmd) (hx : ∀ s, kpR B pg m clean s x = true) (hm : ∀ k, k < C.length → mkS x (C.getD k ⟨0, 0, 0, 0⟩).b = false) (hn : ∀ b n, nxS pg b n x = n) :
    (∀ j, j < A.length → ckF B pg m clean (A ++ ([x] ++ C)) j = ckF B pg m clean (A ++ C) j) ∧ ckF B pg m clean (A ++ ([x] ++ C)) A.length = true ∧ ∀ j, A.length ≤ j → j < A.length + C.length → ckF B pg m clean (A ++ ([x] ++ C)) (j + 1) = ckF B pg m clean (A ++ C) j := by
  refine ⟨fun j hj => by rw [ckF_app hj, ckF_app hj], ?_, fun j h1 h2 => ?_⟩
  · unfold ckF
    rw [getD_app_r (Nat.le_refl _), Nat.sub_self]
    exact hx _
  · obtain ⟨i, rfl⟩ : ∃ i, j = A.length + i := ⟨j - A.length, by omega⟩
    unfold ckF
    rw [getD_app_r (l := A) (show A.length ≤ A.length + i + 1 by omega), getD_app_r (l := A) (show A.length ≤ A.length + i by omega), show A.length + i + 1 - A.length = i + 1 by omega, show A.length + i - A.length = i by omega]
    rw [show ([x] ++ C).getD (i + 1) ⟨0, 0, 0, 0⟩ = C.getD i ⟨0, 0, 0, 0⟩ from rfl]
    have t1 : (A ++ ([x] ++ C)).take (A.length + i + 1) = A ++ ([x] ++ C.take i) := by
      rw [List.take_append, List.take_of_length_le (show A.length ≤ A.length + i + 1 by omega), show A.length + i + 1 - A.length = i + 1 by omega]; rfl
    have t2 : (A ++ C).take (A.length + i) = A ++ C.take i := by
      rw [List.take_append, List.take_of_length_le (show A.length ≤ A.length + i by omega), show A.length + i - A.length = i by omega]
    rw [t1, t2]
    exact kp_congr (mkR_mid _ _ _ _ (hm i (by omega))) (nxR_mid _ _ _ _ (fun n => hn _ n))
/-- .. and the place that Check tells. -/
theorem ck_mid (A C : List Cmd) (x : Cmd) (hx : ∀ s, kpR B pg m clean s x = true) (hm : ∀ k, k < C.length → mkS x (C.getD k ⟨0, 0, 0, 0⟩).b = false) (hn : ∀ b n, nxS pg b n x = n) :
    ckR B pg m clean (A ++ ([x] ++ C)) = if ckR B pg m clean (A ++ C) < A.length then ckR B pg m clean (A ++ C) else ckR B pg m clean (A ++ C) + 1 := by
  obtain ⟨e1, e2, e3⟩ := ckF_mid (B := B) (pg := pg) (m := m) (clean := clean) A C x hx hm hn
  have hl : (A ++ C).length = A.length + C.length := List.length_append
  have hl2 : (A ++ ([x] ++ C)).length = A.length + (1 + C.length) := by simp; omega
  rcases ck_cases (B := B) (pg := pg) (m := m) (clean := clean) (A ++ C) with ⟨h1, h2⟩ | ⟨k, h1, h2, h3, h4⟩
  · rw [h1, if_pos (by omega)]
    refine ck_all (fun j hj => ?_)
    by_cases g1 : j < A.length
    · rw [e1 j g1]; exact h2 j (by omega)
    · by_cases g2 : j = A.length
      · rw [g2]; exact e2
      · obtain ⟨i, rfl⟩ : ∃ i, j = i + 1 := ⟨j - 1, by omega⟩
        rw [e3 i (by omega) (by omega)]; exact h2 i (by omega)
  · rw [h2]
    by_cases hk : k < A.length
    · rw [if_pos (by omega)]
      exact ck_at (by omega) (fun j hj => by rw [e1 j (by omega)]; exact h3 j hj) (by rw [e1 k hk]; exact h4)
    · rw [if_neg (by omega)]
      refine ck_at (k := k + 1) (by omega) (fun j hj => ?_) (by rw [e3 k (by omega) (by omega)]; exact h4)
      by_cases g1 : j < A.length
      · rw [e1 j g1]; exact h3 j (by omega)
      · by_cases g2 : j = A.length
        · rw [g2]; exact e2
        · obtain ⟨i, rfl⟩ : ∃ i, j = i + 1 := ⟨j - 1, by omega⟩
          rw [e3 i (by omega) (by omega)]; exact h3 i (by omega)
theorem kp_mark (s : List Cmd) (blk st : Int) (hb : 0 ≤ blk ∧ blk < B) (hs : okS st) : kpR B pg m clean s ⟨3, blk, 0, st⟩ = true :=
  decide_eq_true ⟨⟨(by decide : (1 : Int) ≤ 3), (by decide : (3 : Int) ≤ 3)⟩, hb, hs, fun h => absurd rfl h, fun h => absurd h (by decide : ¬ (3 : Int) = 1)⟩
theorem nx_mark (b blk st n : Int) : nxS pg b n ⟨3, blk, 0, st⟩ = n := by
  unfold nxS
  simp
/-- A Mark that failed, put in anywhere. -/
theorem ck_failed (l : List Cmd) (at_ : Nat) (h : at_ ≤ l.length) (blk : Int) (hb : 0 ≤ blk ∧ blk < B) :
    ckR B pg m clean (l.take at_ ++ ([⟨3, blk, 0, 44⟩] ++ l.drop at_)) = if ckR B pg m clean l < at_ then ckR B pg m clean l else ckR B pg m clean l + 1 := by
  have e := ck_mid (B := B) (pg := pg) (m := m) (clean := clean) (l.take at_) (l.drop at_) ⟨3, blk, 0, 44⟩ (fun s => kp_mark s blk 44 hb (.inr (.inl rfl))) (fun k _ => decide_eq_false (fun q => absurd q.2.2 (by decide : ¬ (44 : Int) = 0))) (fun b n => nx_mark b blk 44 n)
  rw [List.take_append_drop, List.length_take, Nat.min_eq_left h] at e
  exact e
/-- A Mark put in behind the last command of its block. -/
theorem ck_marked (l : List Cmd) (at_ : Nat) (h : at_ ≤ l.length) (blk : Int) (hb : 0 ≤ blk ∧ blk < B) (hl : ∀ k, at_ ≤ k → k < l.length → (l.getD k ⟨0, 0, 0, 0⟩).b ≠ blk) (hk : ckR B pg m clean l = -1) :
    ckR B pg m clean (l.take at_ ++ ([⟨3, blk, 0, 0⟩] ++ l.drop at_)) = -1 := by
  have e := ck_mid (B := B) (pg := pg) (m := m) (clean := clean) (l.take at_) (l.drop at_) ⟨3, blk, 0, 0⟩ (fun s => kp_mark s blk 0 hb (.inl rfl)) (fun k hk2 => decide_eq_false (fun q => by
    rw [List.length_drop] at hk2
    refine hl (at_ + k) (by omega) (by omega) ?_
    rw [List.getD_eq_getElem?_getD, ← List.getElem?_drop, ← List.getD_eq_getElem?_getD]
    exact q.2.1.symm)) (fun b n => nx_mark b blk 0 n)
  rw [List.take_append_drop, hk, if_pos (by omega)] at e
  exact e
/-- Commands left out: not erases. -/
inductive Less : List Cmd → List Cmd → Prop
  | nil : Less [] []
  | keep {l r : List Cmd} (c : Cmd) : Less l r → Less (l ++ [c]) (r ++ [c])
  | drop {l r : List Cmd} (c : Cmd) : c.k ≠ 2 → Less l r → Less (l ++ [c]) r
/-- All keep the rules. -/
def AllK (B pg : Int) (m : List Bool) (clean : Bool) (l : List Cmd) : Prop := ∀ j, j < l.length → ckF B pg m clean l j = true
theorem ckF_last (l : List Cmd) (c : Cmd) : ckF B pg m clean (l ++ [c]) l.length = kpR B pg m clean l c := by
  unfold ckF
  rw [getD_app_r (Nat.le_refl _), Nat.sub_self, List.take_append_of_le_length (Nat.le_refl _), List.take_length]
  rfl
theorem allK_snoc {l : List Cmd} {c : Cmd} : AllK B pg m clean (l ++ [c]) ↔ AllK B pg m clean l ∧ kpR B pg m clean l c = true := by
  constructor
  · intro h
    refine ⟨fun j hj => ?_, ?_⟩
    · have := h j (by rw [List.length_append]; omega)
      rwa [ckF_app hj] at this
    · have := h l.length (by simp)
      rwa [ckF_last] at this
  · rintro ⟨h1, h2⟩ j hj
    rw [List.length_append, List.length_singleton] at hj
    by_cases e : j < l.length
    · rw [ckF_app e]; exact h1 j e
    · have : j = l.length := by omega
      rw [this, ckF_last]; exact h2
theorem less_ok {l r : List Cmd} (h : Less l r) (hk : AllK B pg m clean l) : AllK B pg m clean r ∧ (∀ b, mkR m l b = false → mkR m r b = false) ∧ ∀ b, nxR pg clean r b ≤ nxR pg clean l b := by
  induction h with
  | nil => exact ⟨hk, fun b h => h, fun b => Int.le_refl _⟩
  | @keep l r c hl ih =>
    obtain ⟨hk1, hk2⟩ := allK_snoc.1 hk
    obtain ⟨h1, h2, h3⟩ := ih hk1
    have hK := of_decide_eq_true hk2
    obtain ⟨g1, g2, g3, g4, g5⟩ := hK
    refine ⟨allK_snoc.2 ⟨h1, decide_eq_true ⟨g1, g2, g3, fun q => h2 _ (g4 q), fun q => ⟨Int.le_trans (h3 _) (g5 q).1, (g5 q).2⟩⟩⟩, fun b hb => ?_, fun b => ?_⟩
    · rw [mkR_snoc] at hb ⊢
      rw [Bool.or_eq_false_iff] at hb ⊢
      exact ⟨h2 b hb.1, hb.2⟩
    · rw [nxR_snoc, nxR_snoc]
      unfold nxS
      have := h3 b
      split
      · split
        · exact Int.le_refl _
        · split
          · exact Int.le_refl _
          · exact this
      · exact this
  | @drop l r c hc hl ih =>
    obtain ⟨hk1, hk2⟩ := allK_snoc.1 hk
    obtain ⟨h1, h2, h3⟩ := ih hk1
    have hK := of_decide_eq_true hk2
    obtain ⟨g1, g2, g3, g4, g5⟩ := hK
    refine ⟨h1, fun b hb => ?_, fun b => ?_⟩
    · rw [mkR_snoc, Bool.or_eq_false_iff] at hb
      exact h2 b hb.1
    · rw [nxR_snoc]
      unfold nxS
      have := h3 b
      by_cases e : c.b = b
      · rw [if_pos e, if_neg hc]
        by_cases e1 : c.k = 1
        · rw [if_pos e1]
          have := (g5 e1).1
          rw [e] at this
          omega
        · rw [if_neg e1]; exact this
      · rw [if_neg e]; exact this
theorem ck_less {l r : List Cmd} (h : Less l r) (hk : ckR B pg m clean l = -1) : ckR B pg m clean r = -1 := by
  refine ck_all (less_ok h ?_).1
  rcases ck_cases (B := B) (pg := pg) (m := m) (clean := clean) l with ⟨h1, h2⟩ | ⟨k, h1, h2, h3, h4⟩
  · exact h2
  · rw [h2] at hk; omega
end
theorem ck_twice : ckR 8 4 (List.replicate 8 false) true [⟨1, 0, 0, 0⟩, ⟨1, 0, 0, 0⟩] = 1 := by decide
theorem new_twice : newE 8 4 1 8 = 0 := by decide
end Go.Proofs.Ytagfcndpblekkaa
