/- Lists that lie apart in memory: each is written full with marks of its own (by its number and the place) and then grown by others; none meets another. What a step does to that; no program. -/
import Derived.Test.YtekbjcagjkcaiaaDoorOwn
namespace Go.Proofs.YtekbjcagjkcaiaaDoor
open Go.RowKit
set_option linter.unusedVariables false
set_option linter.unusedSimpArgs false

/-- The values f 0, .., f (n - 1). -/
def mkl (f : Nat → Value) (n : Nat) : List Value := (List.range n).map f
theorem mkl_len (f : Nat → Value) (n : Nat) : (mkl f n).length = n := by simp [mkl]
theorem mkl_succ (f : Nat → Value) (n : Nat) : mkl f (n + 1) = mkl f n ++ [f n] := by simp [mkl, List.range_succ]
theorem mkl_get (f : Nat → Value) (n q : Nat) (h : q < n) : (mkl f n)[q]? = some (f q) := by simp [mkl, h]
theorem mkl_none (f : Nat → Value) (n q : Nat) (h : n ≤ q) : (mkl f n)[q]? = none := List.getElem?_eq_none (by rw [mkl_len]; exact h)
/-- A slice: its address, length, capacity. -/
structure Row where
  A : Option Addr
  n : Nat
  c : Nat
def Row.v (r : Row) : Value := .slice r.A r.n r.c
theorem rows_at (rows : List Row) (i : Nat) (r : Row) (h : rows[i]? = some r) : (rows.map Row.v)[i]? = some r.v := by simp [h]

/-- No two of the rows lie in one block. -/
def Dis (rows : List Row) : Prop := ∀ (i j : Nat) (r s : Row), i ≠ j → rows[i]? = some r → rows[j]? = some s → ∀ k, r.v.ownBlock = some k → s.v.ownBlock ≠ some k

section
variable {t : TypeId} {mk mg : Nat → Nat → Value} {rows : List Row}

/-- The first i rows are full of their marks, of row i the first k cells. -/
def Inv1 (t : TypeId) (mk : Nat → Nat → Value) (rows : List Row) (w : World) (i k : Nat) : Prop :=
  ∀ (j : Nat) (r : Row), rows[j]? = some r → ∃ xs sp, Owx w t 1 r.v r.n xs sp ∧ ∀ q, q < r.n → (j < i ∨ (j = i ∧ q < k)) → xs[q]? = some (mk j q)

theorem Inv1.next {w : World} {i : Nat} {r : Row} (h : Inv1 t mk rows w i r.n) (hr : rows[i]? = some r) : Inv1 t mk rows w (i + 1) 0 := by
  intro j s hs
  obtain ⟨xs, sp, ho, hx⟩ := h j s hs
  refine ⟨xs, sp, ho, fun q hq hc => hx q hq ?_⟩
  rcases hc with hc | hc
  · rcases Nat.lt_or_ge j i with h1 | h1
    · exact .inl h1
    · have : j = i := by omega
      subst this
      rw [hr] at hs; cases hs
      exact .inr ⟨rfl, hq⟩
  · omega
theorem Inv1.addr {w : World} {i k : Nat} {r : Row} (h : Inv1 t mk rows w i k) (hr : rows[i]? = some r) (hk : k < r.n) :
    ∃ g, r.A = some ⟨g, 0, none⟩ ∧ r.n ≤ r.c ∧ w.frozen? ⟨g, k, none⟩ = false ∧ (∃ u, w.cell? ⟨g, k, none⟩ = some u) ∧ r.v.ownBlock = some g := by
  obtain ⟨xs, sp, ho, _⟩ := h i r hr
  obtain ⟨g, cap, e, hb, hl, hc, hn, hm⟩ := ho.blk (by omega)
  have e' : r.A = some ⟨g, 0, none⟩ ∧ r.n = r.n ∧ r.c = cap := by simpa [Row.v] using e
  refine ⟨g, e'.1, by omega, hb.frozen k, ?_, by simp [Row.v, e'.1, Value.ownBlock]⟩
  rw [hb.cell]
  exact ⟨_, List.getElem?_eq_getElem (by simp; omega)⟩
theorem Inv1.store {w : World} {i k : Nat} {r : Row} (hd : Dis rows) (h : Inv1 t mk rows w i k) (hr : rows[i]? = some r) (hk : k < r.n) {g : Nat} (hA : r.A = some ⟨g, 0, none⟩) :
    Inv1 t mk rows (w.setCell ⟨g, k, none⟩ (mk i k)) i (k + 1) := by
  intro j s hs
  obtain ⟨xs, sp, ho, hx⟩ := h j s hs
  by_cases e : j = i
  · subst e
    rw [hr] at hs; cases hs
    obtain ⟨g', cap, e, hb, hl, hc, hn, hm⟩ := ho.blk (by omega)
    have e' : r.A = some ⟨g', 0, none⟩ ∧ r.c = cap := by simpa [Row.v] using e
    have hg : g' = g := by have := e'.1; rw [hA] at this; simpa using this.symm
    subst hg
    have hbs := hb.set_ k (mk j k)
    rw [List.set_append_left _ _ (by omega)] at hbs
    refine ⟨xs.set k (mk j k), sp, .inr ⟨g', cap, e, hbs, by simpa using hl, by simpa using hc, hn, hm⟩, fun q hq hc => ?_⟩
    rw [List.getElem?_set]
    by_cases e2 : k = q
    · subst e2; rw [if_pos rfl, if_pos (by omega)]
    · rw [if_neg e2]
      exact hx q hq (by omega)
  · refine ⟨xs, sp, ho.frm ((Frm.refl (fun q => q = g) w).setCell (fun _ => rfl) _) (fun q hq e2 => ?_), fun q hq hc => hx q hq (by omega)⟩
    subst e2
    exact hd i j r s (fun e2 => e e2.symm) hr hs q (by simp [Row.v, hA, Value.ownBlock]) hq

/-- Behind the grown copies of the first i rows; g: row i with k marks more. -/
structure Inv2 (t : TypeId) (mk mg : Nat → Nat → Value) (rows : List Row) (N : Nat) (w : World) (i : Nat) (gs : List Value) : Prop where
  len : gs.length = i
  live : ∀ (j : Nat) (r : Row), rows[j]? = some r → 0 < r.n → ∃ b sp, r.A = some ⟨b, 0, none⟩ ∧ Blk w b t (mkl (mk j) r.n ++ sp)
  own : ∀ (j : Nat) (r : Row), i ≤ j → rows[j]? = some r → ∃ sp, Owx w t 1 r.v r.n (mkl (mk j) r.n) sp
  grown : ∀ (j : Nat) (g : Value) (r : Row), gs[j]? = some g → rows[j]? = some r → ∃ sp, Owx w t 1 g (r.n + N) (mkl (mk j) r.n ++ mkl (mg j) N) sp
  sep : ∀ (j : Nat) (g : Value) (s : Nat) (r : Row), gs[j]? = some g → i ≤ s → rows[s]? = some r → ∀ k, g.ownBlock = some k → r.v.ownBlock ≠ some k

structure Inv3 (t : TypeId) (mk mg : Nat → Nat → Value) (rows : List Row) (N : Nat) (w : World) (i : Nat) (gs : List Value) (r : Row) (g : Value) (k : Nat) : Prop where
  len : gs.length = i
  live : ∀ (j : Nat) (r : Row), rows[j]? = some r → 0 < r.n → ∃ b sp, r.A = some ⟨b, 0, none⟩ ∧ Blk w b t (mkl (mk j) r.n ++ sp)
  own : ∀ (j : Nat) (r : Row), i < j → rows[j]? = some r → ∃ sp, Owx w t 1 r.v r.n (mkl (mk j) r.n) sp
  grown : ∀ (j : Nat) (g : Value) (r : Row), gs[j]? = some g → rows[j]? = some r → ∃ sp, Owx w t 1 g (r.n + N) (mkl (mk j) r.n ++ mkl (mg j) N) sp
  sep : ∀ (j : Nat) (g : Value) (s : Nat) (r : Row), gs[j]? = some g → i < s → rows[s]? = some r → ∀ k, g.ownBlock = some k → r.v.ownBlock ≠ some k
  cur : ∃ sp, Owx w t 1 g (r.n + k) (mkl (mk i) r.n ++ mkl (mg i) k) sp
  apartG : ∀ q, g.ownBlock = some q → ∀ (j : Nat) (h : Value), gs[j]? = some h → h.ownBlock ≠ some q
  apartR : ∀ q, g.ownBlock = some q → ∀ (s : Nat) (r' : Row), s ≠ i → rows[s]? = some r' → r'.v.ownBlock ≠ some q
  where_ : g.ownBlock = r.v.ownBlock ∨ (∀ q, g.ownBlock = some q → r.v.ownBlock ≠ some q)
  small : ∀ (j : Nat) (r : Row), rows[j]? = some r → ∀ q, r.v.ownBlock = some q → q < w.heap.size

theorem Inv2.start {N : Nat} {w : World} (hd : Dis rows) (h : Inv1 t mk rows w rows.length 0) : Inv2 t mk mg rows N w 0 [] := by
  have key : ∀ (j : Nat) (r : Row), rows[j]? = some r → ∃ sp, Owx w t 1 r.v r.n (mkl (mk j) r.n) sp := by
    intro j r hr
    obtain ⟨xs, sp, ho, hx⟩ := h j r hr
    have hj : j < rows.length := by
      rcases Nat.lt_or_ge j rows.length with h1 | h1
      · exact h1
      · rw [List.getElem?_eq_none h1] at hr; cases hr
    have hlen : xs.length = r.n := by
      simpa using ho.len
    have e : xs = mkl (mk j) r.n := by
      apply List.ext_getElem?
      intro q
      rcases Nat.lt_or_ge q r.n with hq | hq
      · rw [hx q hq (.inl hj), mkl_get _ _ _ hq]
      · rw [List.getElem?_eq_none (by omega), mkl_none _ _ _ hq]
    exact ⟨sp, e ▸ ho⟩
  refine ⟨rfl, fun j r hr hn => ?_, fun j r _ hr => key j r hr, fun j g r hg => by simp at hg, fun j g s r hg => by simp at hg⟩
  obtain ⟨sp, ho⟩ := key j r hr
  obtain ⟨b, cap, e, hb, _⟩ := ho.blk hn
  have e' : r.A = some ⟨b, 0, none⟩ ∧ r.c = cap := by simpa [Row.v] using e
  exact ⟨b, sp, e'.1, hb⟩

theorem Inv2.begin {N : Nat} {w : World} {i : Nat} {gs : List Value} {r : Row} (hd : Dis rows) (h : Inv2 t mk mg rows N w i gs) (hr : rows[i]? = some r)
    (hs : ∀ (j : Nat) (r : Row), rows[j]? = some r → ∀ q, r.v.ownBlock = some q → q < w.heap.size) : Inv3 t mk mg rows N w i gs r r.v 0 :=
  ⟨h.len, h.live, fun j r hj => h.own j r (by omega), h.grown, fun j g s r hg hs' => h.sep j g s r hg (by omega), (h.own i r (Nat.le_refl _) hr).imp fun _ h => (by rw [show mkl (mg i) 0 = [] from rfl, List.append_nil]; exact h),
    fun q hq j g hg hg2 => h.sep j g i r hg (Nat.le_refl _) hr q hg2 hq,
    fun q hq s r' hne hr' hq' => hd i s r r' (fun e => hne e.symm) hr hr' q hq hq', .inl rfl, hs⟩

/-- The row that grows is grown by one. -/
theorem Inv3.grow {N : Nat} {w w1 w' : World} {i k : Nat} {gs : List Value} {r : Row} {g g' : Value} (hr : rows[i]? = some r) (h : Inv3 t mk mg rows N w i gs r g k)
    (hw1 : Frm (fun _ => False) w w1) (hy : Lay w1 w' g g') (ho : ∃ sp, Owx w' t 1 g' (r.n + (k + 1)) (mkl (mk i) r.n ++ mkl (mg i) (k + 1)) sp) : Inv3 t mk mg rows N w' i gs r g' (k + 1) := by
  have hall : Frm (fun q => g.ownBlock = some q) w w' := (hw1.mono (fun _ _ h => h.elim)).trans (hy.frm.mono (fun _ _ h => h))
  have hat := hy.at_
  have hM := hw1.size
  have fresh : ∀ (v : Value) q, (∀ q, v.ownBlock = some q → q < w.heap.size) → g'.ownBlock = some q → (∀ q, g.ownBlock = some q → v.ownBlock ≠ some q) → v.ownBlock ≠ some q := by
    intro v q hv hq hne hvq
    rcases hat with e | e
    · exact hne q (e ▸ hq) hvq
    · rw [hq] at e; cases e; exact absurd (hv _ hvq) (by omega)
  have hgs : ∀ (j : Nat) (x : Value), gs[j]? = some x → ∀ q, x.ownBlock = some q → q < w.heap.size := by
    intro j x hx
    have hj : j < i := by
      rw [← h.len]
      rcases Nat.lt_or_ge j gs.length with h1 | h1
      · exact h1
      · rw [List.getElem?_eq_none h1] at hx; cases hx
    have hi : i < rows.length := by
      rcases Nat.lt_or_ge i rows.length with h1 | h1
      · exact h1
      · rw [List.getElem?_eq_none h1] at hr; cases hr
    obtain ⟨sp, ho⟩ := h.grown j x rows[j] hx (List.getElem?_eq_getElem (by omega))
    exact ho.lt
  refine ⟨h.len, ?_, ?_, ?_, h.sep, ho, ?_, ?_, ?_, ?_⟩
  · intro j s hs hn
    obtain ⟨b, sp, hA, hb⟩ := h.live j s hs hn
    have hbo : s.v.ownBlock = some b := by simp [Row.v, hA, Value.ownBlock]
    by_cases e : j = i
    · subst e
      rw [hr] at hs; cases hs
      rcases hy with ⟨e1, hf⟩ | ⟨e1, hf⟩
      · rcases h.where_ with e2 | e2
        · obtain ⟨sp', ho'⟩ := ho
          obtain ⟨q', cap', hv', hb', hl', _⟩ := ho'.blk (by omega)
          have hqq : q' = b := by
            have h1 : g'.ownBlock = some q' := by rw [hv']; rfl
            rw [e1, e2, hbo] at h1; cases h1; rfl
          subst hqq
          refine ⟨q', mkl (mg j) (k + 1) ++ sp', hA, ?_⟩
          rw [← List.append_assoc]
          exact hb'
        · exact ⟨b, sp, hA, hb.frm hall (fun hg => e2 b hg hbo)⟩
      · exact ⟨b, sp, hA, hb.frm (hw1.trans hf) (fun hf => hf)⟩
    · exact ⟨b, sp, hA, hb.frm hall (fun hg => h.apartR b hg j s e hs hbo)⟩
  · intro j s hj hs
    obtain ⟨sp, ho⟩ := h.own j s hj hs
    exact ⟨sp, ho.frm hall (fun q hq hg => h.apartR q hg j s (by omega) hs hq)⟩
  · intro j x s hx hs
    obtain ⟨sp, ho⟩ := h.grown j x s hx hs
    exact ⟨sp, ho.frm hall (fun q hq hg => h.apartG q hg j x hx hq)⟩
  · exact fun q hq j x hx => fresh x q (hgs j x hx) hq (fun q2 hq2 => h.apartG q2 hq2 j x hx)
  · exact fun q hq s r' hne hr' => fresh r'.v q (h.small s r' hr') hq (fun q2 hq2 => h.apartR q2 hq2 s r' hne hr')
  · rcases hat with e | e
    · rcases h.where_ with e2 | e2
      · exact .inl (e.trans e2)
      · exact .inr (fun q hq => e2 q (e ▸ hq))
    · refine .inr (fun q hq hq2 => ?_)
      rw [hq] at e; cases e
      exact absurd (h.small i r hr _ hq2) (by omega)
  · exact fun j s hs q hq => Nat.lt_of_lt_of_le (h.small j s hs q hq) hall.size

theorem Blk.other {w : World} {g : Nat} {t u : TypeId} {cs ds : List Value} (h : Blk w g t cs) (hne : t ≠ u) : ¬ Blk w g u ds := by
  intro h'
  unfold Blk at h h'
  rw [h] at h'
  injection h' with h'
  injection h' with _ ht
  exact hne ht
theorem Owx.keep {w w' : World} {ex : Nat → Prop} {v : Value} {n : Nat} {xs sp : List Value} (h : Owx w t 1 v n xs sp) (hf : Frm ex w w') (hx : ∀ q cs, ex q → ¬ Blk w q t cs) : Owx w' t 1 v n xs sp := by
  rcases h with h | ⟨g, cap, e, hb, r⟩
  · exact .inl h
  · exact .inr ⟨g, cap, e, hb.frm hf (fun he => hx g _ he hb), r⟩
theorem Inv3.done {N : Nat} {w w' : World} {i : Nat} {gs : List Value} {r : Row} {g : Value} {ex : Nat → Prop} (hd : Dis rows) (hr : rows[i]? = some r) (h : Inv3 t mk mg rows N w i gs r g N)
    (hf : Frm ex w w') (hx : ∀ q cs, ex q → ¬ Blk w q t cs) : Inv2 t mk mg rows N w' (i + 1) (gs ++ [g]) := by
  have hat : ∀ (j : Nat) x, (gs ++ [g])[j]? = some x → (gs[j]? = some x ∧ j < i) ∨ (j = i ∧ x = g) := by
    intro j x hx
    rcases Nat.lt_or_ge j gs.length with h1 | h1
    · rw [List.getElem?_append_left h1] at hx
      exact .inl ⟨hx, by rw [← h.len]; exact h1⟩
    · rw [List.getElem?_append_right h1] at hx
      have : j - gs.length = 0 := by
        rcases Nat.eq_zero_or_pos (j - gs.length) with h2 | h2
        · exact h2
        · rw [List.getElem?_eq_none (by simp; omega)] at hx; cases hx
      rw [this] at hx
      simp at hx
      exact .inr ⟨by rw [← h.len]; omega, hx.symm⟩
  refine ⟨by simp [h.len], fun j s hs hn => ?_, fun j s hj hs => ?_, fun j x s hx' hs => ?_, fun j x s u hx' hj hu q hq => ?_⟩
  · obtain ⟨b, sp, hA, hb⟩ := h.live j s hs hn
    exact ⟨b, sp, hA, hb.frm hf (fun he => hx b _ he hb)⟩
  · obtain ⟨sp, ho⟩ := h.own j s (by omega) hs
    exact ⟨sp, ho.keep hf hx⟩
  · rcases hat j x hx' with ⟨h1, _⟩ | ⟨rfl, rfl⟩
    · obtain ⟨sp, ho⟩ := h.grown j x s h1 hs
      exact ⟨sp, ho.keep hf hx⟩
    · rw [hr] at hs; cases hs
      obtain ⟨sp, ho⟩ := h.cur
      exact ⟨sp, ho.keep hf hx⟩
  · rcases hat j x hx' with ⟨h1, _⟩ | ⟨rfl, rfl⟩
    · exact h.sep j x s u h1 (by omega) hu q hq
    · exact h.apartR q hq s u (by omega) hu
theorem Inv2.small {N : Nat} {w : World} {i : Nat} {gs : List Value} (h : Inv2 t mk mg rows N w i gs) (hp : ∀ (j : Nat) (r : Row), rows[j]? = some r → ∀ q, r.v.ownBlock = some q → q < w.heap.size) {w' : World} {ex : Nat → Prop} (hf : Frm ex w w') :
    ∀ (j : Nat) (r : Row), rows[j]? = some r → ∀ q, r.v.ownBlock = some q → q < w'.heap.size := fun j r hr q hq => Nat.lt_of_lt_of_le (hp j r hr q hq) hf.size
end
/-- Rows that were made one behind the other lie apart: row i in the zone number idx i. -/
theorem dis_idx {rows : List Row} (s : Nat → Nat) (hs : ∀ i, s i ≤ s (i + 1)) (idx : List Nat) (hnd : idx.Nodup) (hlen : idx.length = rows.length)
    (h : ∀ (i : Nat) (r : Row) (c : Nat), rows[i]? = some r → idx[i]? = some c → ∀ k, r.v.ownBlock = some k → s c ≤ k ∧ k < s (c + 1)) : Dis rows := by
  have mono : ∀ a b, a ≤ b → s a ≤ s b := by
    intro a b hab
    induction hab with
    | refl => exact Nat.le_refl _
    | step _ ih => exact Nat.le_trans ih (hs _)
  intro i j r t hne hr ht k hk hk'
  have hi : i < idx.length := by
    rw [hlen]
    rcases Nat.lt_or_ge i rows.length with h1 | h1
    · exact h1
    · rw [List.getElem?_eq_none h1] at hr; cases hr
  have hj : j < idx.length := by
    rw [hlen]
    rcases Nat.lt_or_ge j rows.length with h1 | h1
    · exact h1
    · rw [List.getElem?_eq_none h1] at ht; cases ht
  have z1 := h i r _ hr (List.getElem?_eq_getElem hi) k hk
  have z2 := h j t _ ht (List.getElem?_eq_getElem hj) k hk'
  have hci : idx[i] ≠ idx[j] := by
    have hp := List.pairwise_iff_getElem.1 hnd
    rcases Nat.lt_or_gt_of_ne hne with h1 | h1
    · exact hp i j hi hj h1
    · exact fun e => hp j i hj hi h1 e.symm
  rcases Nat.lt_or_gt_of_ne hci with h1 | h1
  · have := mono (idx[i] + 1) idx[j] h1; omega
  · have := mono (idx[j] + 1) idx[i] h1; omega
/-- Sizes of memory, one behind the other, as a rising function. -/
def zone (l : List Nat) (i : Nat) : Nat := l.getD i (l.getLastD 0)
end Go.Proofs.YtekbjcagjkcaiaaDoor
