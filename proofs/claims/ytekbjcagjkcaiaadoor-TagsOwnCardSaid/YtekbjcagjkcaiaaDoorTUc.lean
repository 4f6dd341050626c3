/- Lists of bytes that a walk holds, each in a block of its own. Plain lemmas; no program. -/
import Derived.Test.YtekbjcagjkcaiaaDoorTUb
namespace Go.Proofs.YtekbjcagjkcaiaaDoor
open Go.RowKit
set_option linter.unusedVariables false
/-- Each of the lists is its holder's own; no two lie in one block; none lies below B. -/
structure Hold (t : TypeId) (w : World) (B : Nat) (l : List (Row × List UInt8)) : Prop where
  dis : ∀ (i j : Nat) (r s : Row) (L M : List UInt8), i ≠ j → l[i]? = some (r, L) → l[j]? = some (s, M) → ∀ k, r.v.ownBlock = some k → s.v.ownBlock ≠ some k
  at_ : ∀ (i : Nat) (r : Row) (L : List UInt8), l[i]? = some (r, L) → (∃ sp, Owx w t 1 r.v r.n (u8s L) sp) ∧ ∀ q, r.v.ownBlock = some q → B ≤ q
namespace Hold
variable {t : TypeId} {w w' : World} {B : Nat} {l : List (Row × List UInt8)}
theorem nil (t : TypeId) (w : World) (B : Nat) : Hold t w B [] := ⟨fun i j r s L M _ h => by simp at h, fun i r L h => by simp at h⟩
theorem bel (h : Hold t w B l) (b : Below w.heap.size w w') : Hold t w' B l :=
  ⟨h.dis, fun i r L hi => by obtain ⟨⟨sp, o⟩, f⟩ := h.at_ i r L hi; exact ⟨⟨sp, o.bel b⟩, f⟩⟩
theorem frm {ex : Nat → Prop} (h : Hold t w B l) (hf : Frm ex w w') (hx : ∀ (i : Nat) (r : Row) (L : List UInt8), l[i]? = some (r, L) → ∀ q, r.v.ownBlock = some q → ¬ ex q) : Hold t w' B l :=
  ⟨h.dis, fun i r L hi => by obtain ⟨⟨sp, o⟩, f⟩ := h.at_ i r L hi; exact ⟨⟨sp, o.frm hf (hx i r L hi)⟩, f⟩⟩
theorem own (h : Hold t w B l) {i : Nat} {A : Option Addr} {n c : Nat} {L : List UInt8} (hi : l[i]? = some (⟨A, n, c⟩, L)) : ∃ sp, Owx w t 1 (.slice A n c) n (u8s L) sp := (h.at_ i _ _ hi).1
theorem low (h : Hold t w B l) {i : Nat} {A : Option Addr} {n c : Nat} {L : List UInt8} (hi : l[i]? = some (⟨A, n, c⟩, L)) : ∀ q, (Value.slice A n c).ownBlock = some q → B ≤ q := (h.at_ i _ _ hi).2
theorem rd (h : Hold t w B l) {i : Nat} {A : Option Addr} {n c : Nat} {L : List UInt8} (hi : l[i]? = some (⟨A, n, c⟩, L)) : Rd w A (u8s L) := by
  obtain ⟨sp, o⟩ := h.own hi
  obtain ⟨_, _, e, _, r⟩ := o.rd
  cases e
  exact r
theorem snoc (h : Hold t w B l) (b : Below w.heap.size w w') {A : Option Addr} {n c : Nat} {L : List UInt8} {sp : List Value} (o : Owx w' t 1 (.slice A n c) n (u8s L) sp)
    (f : ∀ q, (Value.slice A n c).ownBlock = some q → w.heap.size ≤ q) (hB : B ≤ w.heap.size) : Hold t w' B (l ++ [(⟨A, n, c⟩, L)]) := by
  have hb := h.bel b
  have key : ∀ (i : Nat) (r : Row) (M : List UInt8), (l ++ [(⟨A, n, c⟩, L)])[i]? = some (r, M) → (l[i]? = some (r, M) ∧ i < l.length) ∨ (i = l.length ∧ r = ⟨A, n, c⟩ ∧ M = L) := by
    intro i r M hi
    rcases Nat.lt_or_ge i l.length with h1 | h1
    · rw [List.getElem?_append_left h1] at hi; exact .inl ⟨hi, h1⟩
    · rw [List.getElem?_append_right h1] at hi
      rcases Nat.eq_zero_or_pos (i - l.length) with h2 | h2
      · rw [h2] at hi
        simp at hi
        exact .inr ⟨by omega, hi.1.symm, hi.2.symm⟩
      · rw [List.getElem?_eq_none (by simp; omega)] at hi; cases hi
  refine ⟨fun i j r s L1 M1 hne hi hj k hk hk' => ?_, fun i r M hi => ?_⟩
  · rcases key i r L1 hi with ⟨h1, _⟩ | ⟨e1, rfl, rfl⟩
    · rcases key j s M1 hj with ⟨h2, _⟩ | ⟨e2, rfl, rfl⟩
      · exact h.dis i j r s L1 M1 hne h1 h2 k hk hk'
      · obtain ⟨⟨_, o1⟩, _⟩ := h.at_ i r L1 h1
        have := o1.lt k hk
        have := f k hk'
        omega
    · rcases key j s M1 hj with ⟨h2, _⟩ | ⟨e2, rfl, rfl⟩
      · obtain ⟨⟨_, o1⟩, _⟩ := h.at_ j s M1 h2
        have := o1.lt k hk'
        have := f k hk
        omega
      · omega
  · rcases key i r M hi with ⟨h1, _⟩ | ⟨_, rfl, rfl⟩
    · exact hb.at_ i r M h1
    · exact ⟨⟨sp, o⟩, fun q hq => Nat.le_trans hB (f q hq)⟩
theorem write (h : Hold t w B l) {i : Nat} {A : Option Addr} {n c : Nat} {L M : List UInt8} (hi : l[i]? = some (⟨A, n, c⟩, L)) (hf : Frm (fun q => (Value.slice A n c).ownBlock = some q) w w')
    {sp : List Value} (o : Owx w' t 1 (.slice A n c) n (u8s M) sp) : Hold t w' B (l.set i (⟨A, n, c⟩, M)) := by
  have hlen : i < l.length := by
    rcases Nat.lt_or_ge i l.length with h1 | h1
    · exact h1
    · rw [List.getElem?_eq_none h1] at hi; cases hi
  have key : ∀ (j : Nat) (r : Row) (N : List UInt8), (l.set i (⟨A, n, c⟩, M))[j]? = some (r, N) → (j = i ∧ r = ⟨A, n, c⟩ ∧ N = M) ∨ (j ≠ i ∧ l[j]? = some (r, N)) := by
    intro j r N hj
    rw [List.getElem?_set] at hj
    by_cases e : i = j
    · subst e
      rw [if_pos rfl, if_pos hlen] at hj
      cases hj
      exact .inl ⟨rfl, rfl, rfl⟩
    · rw [if_neg e] at hj
      exact .inr ⟨fun h => e h.symm, hj⟩
  have old : ∀ (j : Nat) (r : Row) (N : List UInt8), (l.set i (⟨A, n, c⟩, M))[j]? = some (r, N) → ∃ N', l[j]? = some (r, N') := by
    intro j r N hj
    rcases key j r N hj with ⟨rfl, rfl, rfl⟩ | ⟨_, h2⟩
    · exact ⟨_, hi⟩
    · exact ⟨_, h2⟩
  refine ⟨fun j k r s L1 M1 hne hj hk => ?_, fun j r N hj => ?_⟩
  · obtain ⟨_, h1⟩ := old j r L1 hj
    obtain ⟨_, h2⟩ := old k s M1 hk
    exact h.dis j k r s _ _ hne h1 h2
  · rcases key j r N hj with ⟨rfl, rfl, rfl⟩ | ⟨hne, h2⟩
    · exact ⟨⟨sp, o⟩, (h.at_ _ _ _ hi).2⟩
    · obtain ⟨⟨sp2, o2⟩, f2⟩ := h.at_ j r N h2
      exact ⟨⟨sp2, o2.frm hf (fun k hk hk' => h.dis j i r _ _ _ hne h2 hi k hk hk')⟩, f2⟩
/-- Some of the lists, by their numbers. -/
def pick (l : List (Row × List UInt8)) (idx : List Nat) : List Row := idx.map fun c => (l.getD c (⟨none, 0, 0⟩, [])).1
theorem picked (h : Hold t w B l) (idx : List Nat) (hnd : idx.Nodup) (hlt : ∀ c ∈ idx, c < l.length) :
    Dis (pick l idx) ∧ ∀ (j : Nat) (r : Row), (pick l idx)[j]? = some r → (∃ xs sp, Owx w t 1 r.v r.n xs sp) ∧ ∀ q, r.v.ownBlock = some q → B ≤ q := by
  have key : ∀ (j : Nat) (r : Row), (pick l idx)[j]? = some r → ∃ c L, idx[j]? = some c ∧ l[c]? = some (r, L) := by
    intro j r hj
    unfold pick at hj
    rw [List.getElem?_map] at hj
    cases hc : idx[j]? with
    | none => rw [hc] at hj; cases hj
    | some c =>
      rw [hc] at hj
      have hcl := hlt c (List.mem_of_getElem? hc)
      simp only [Option.map_some, Option.some.injEq] at hj
      refine ⟨c, (l.getD c (⟨none, 0, 0⟩, [])).2, rfl, ?_⟩
      rw [← hj, List.getD_eq_getElem?_getD, List.getElem?_eq_getElem hcl]
      rfl
  refine ⟨fun i j r s hne hr hs => ?_, fun j r hj => ?_⟩
  · obtain ⟨c, L, h1, h2⟩ := key i r hr
    obtain ⟨d, M, h3, h4⟩ := key j s hs
    refine h.dis c d r s L M (fun e => hne ?_) h2 h4
    subst e
    have hi : i < idx.length := by
      rcases Nat.lt_or_ge i idx.length with h5 | h5
      · exact h5
      · rw [List.getElem?_eq_none h5] at h1; cases h1
    exact (List.getElem?_inj hi hnd).1 (h1.trans h3.symm)
  · obtain ⟨c, L, _, h2⟩ := key j r hj
    obtain ⟨⟨sp, o⟩, f⟩ := h.at_ c r L h2
    exact ⟨⟨_, sp, o⟩, f⟩
end Hold
/-- What an append to a new empty list makes. -/
theorem copy_new {w w' : World} {t : TypeId} {v' : Value} (hy : Lay (w.alloc (.cells #[] t)) w' (.slice (some ⟨w.heap.size, 0, none⟩) 0 0) v') : (∀ q, v'.ownBlock = some q → w.heap.size ≤ q) ∧ Below w.heap.size w w' :=
  ⟨fresh_app (by simp) (fun k hk => by cases hk; exact Nat.le_refl _) hy.at_, below_frm ((Below.refl _ w).alloc (Nat.le_refl _) _) (by simp) hy.frm (fun q hq => by cases hq; exact Nat.le_refl _)⟩
theorem owx_empty (w : World) (t : TypeId) : Owx (w.alloc (.cells #[] t)) t 1 (.slice (some ⟨w.heap.size, 0, none⟩) 0 0) 0 [] [] := Owx.of_own (Own.new w t 1 0 [] rfl (Nat.zero_le _))
/-- One's own slice written over whole (what copy leaves). -/
theorem Owx.over {w : World} {e : TypeId} {A : Option Addr} {m c : Nat} {L M : List UInt8} {sp : List Value} (h : Owx w e 1 (.slice A m c) m (u8s L) sp) (hm : 0 < m) (hM : M.length = m) :
    ∃ g, A = some ⟨g, 0, none⟩ ∧ w.heap[g]? = some (.cells (u8s L ++ sp).toArray e (0, 0)) ∧ 0 + (u8s M).length ≤ (u8s L ++ sp).toArray.size ∧
      Owx (w.setRow g ((u8s L ++ sp).toArray.toList.take 0 ++ (u8s M ++ (u8s L ++ sp).toArray.toList.drop (0 + (u8s M).length))).toArray) e 1 (.slice A m c) m (u8s M) sp ∧
      Frm (fun q => (Value.slice A m c).ownBlock = some q) w (w.setRow g ((u8s L ++ sp).toArray.toList.take 0 ++ (u8s M ++ (u8s L ++ sp).toArray.toList.drop (0 + (u8s M).length))).toArray) := by
  obtain ⟨g, cap, he, hb, hl, hc, hn, hm2⟩ := h.blk hm
  cases he
  have hg : w.heap[g]? = some (.cells (u8s L ++ sp).toArray e (0, 0)) := hb
  have hlm : (u8s M).length = (u8s L).length := by rw [u8s_length, hM, hl, Nat.mul_one]
  have e1 : (u8s L ++ sp).toArray.toList.take 0 ++ (u8s M ++ (u8s L ++ sp).toArray.toList.drop (0 + (u8s M).length)) = u8s M ++ sp := by
    rw [List.take_zero, List.nil_append, Nat.zero_add, hlm]
    show u8s M ++ (u8s L ++ sp).drop _ = _
    rw [List.drop_left]
  refine ⟨g, rfl, hg, by rw [Nat.zero_add, hlm]; simp, .inr ⟨g, c, rfl, ?_, by rw [hlm, hl], by rw [hlm]; exact hc, hn, hm2⟩, ⟨rfl, rfl, rfl, by simp, fun k _ hk => setRow_other w g k _ (fun e => hk (by simp [Value.ownBlock, e]))⟩⟩
  rw [e1]
  unfold Blk
  rw [setRow_heap w g (u8s L ++ sp).toArray _ e _ hg]
theorem blk_two (w : World) (t : TypeId) (u v : Value) : Blk (w.alloc (.cells #[u, v] t)) w.heap.size t [u, v] := by simpa using Blk.new w t [u, v]
end Go.Proofs.YtekbjcagjkcaiaaDoor
