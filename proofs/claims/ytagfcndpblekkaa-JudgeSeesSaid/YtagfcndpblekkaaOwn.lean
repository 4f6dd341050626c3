/- A slice that is its holder's own, whose array may be longer than its capacity tells; what an append to it does. Plain lemmas; no program. -/
import Derived.Test.YtagfcndpblekkaaMem
namespace Go.Proofs.Ytagfcndpblekkaa
open Go.RowKit
set_option linter.unusedVariables false
/-- The slice v of n elements (of the type e, of size cells each) is its holder's own: its cells are xs; behind them stand sp (up to its capacity, and maybe beyond). -/
def Owx (w : World) (e : TypeId) (size : Nat) (v : Value) (n : Nat) (xs sp : List Value) : Prop :=
  (v = .slice none 0 0 ∧ n = 0 ∧ xs = [] ∧ sp = []) ∨
  ∃ g cap, v = .slice (some ⟨g, 0, none⟩) n cap ∧ Blk w g e (xs ++ sp) ∧ xs.length = n * size ∧ cap * size ≤ xs.length + sp.length ∧ n ≤ cap ∧ cap ≤ maxLen
namespace Owx
variable {w w' : World} {e : TypeId} {size : Nat} {v : Value} {n : Nat} {xs sp : List Value}
theorem of_own (h : Own w e size v n xs sp) : Owx w e size v n xs sp := by
  rcases h with h | ⟨g, cap, r1, r2, r3, r4, r5⟩
  · exact .inl h
  · exact .inr ⟨g, cap, r1, r2, r3, Nat.le_of_eq r4.symm, r5⟩
theorem alloc (h : Owx w e size v n xs sp) (o : Obj) : Owx (w.alloc o) e size v n xs sp := by
  rcases h with h | ⟨g, cap, e, hb, r⟩
  · exact .inl h
  · exact .inr ⟨g, cap, e, hb.alloc o, r⟩
theorem drew (h : Owx w e size v n xs sp) : Owx w.drew e size v n xs sp := h
theorem drewN (h : Owx w e size v n xs sp) (k : Nat) : Owx (w.drewN k) e size v n xs sp := h
theorem rd (h : Owx w e size v n xs sp) : ∃ A cap, v = .slice A n cap ∧ n ≤ cap ∧ Rd w A xs := by
  rcases h with ⟨rfl, rfl, rfl, rfl⟩ | ⟨g, cap, rfl, hb, hl, hc, hn, hm⟩
  · exact ⟨none, 0, rfl, Nat.le_refl _, Rd.nil _ _⟩
  · exact ⟨_, cap, rfl, hn, Rd.of_blk hb⟩
theorem frm {ex : Nat → Prop} (h : Owx w e size v n xs sp) (hf : Frm ex w w') (hx : ∀ k, v.ownBlock = some k → ¬ ex k) : Owx w' e size v n xs sp := by
  rcases h with h | ⟨g, cap, rfl, hb, r⟩
  · exact .inl h
  · exact .inr ⟨g, cap, rfl, hb.frm hf (hx g rfl), r⟩
theorem bel (h : Owx w e size v n xs sp) (hb : Below w.heap.size w w') : Owx w' e size v n xs sp := h.frm (ex := fun _ => False) (Frm.of_below hb) (fun _ _ => id)
theorem lt (h : Owx w e size v n xs sp) : ∀ k, v.ownBlock = some k → k < w.heap.size := by
  rcases h with ⟨rfl, _⟩ | ⟨g, cap, rfl, hb, _⟩
  · intro k hk; cases hk
  · intro k hk; cases hk; exact hb.lt
theorem cap {A : Option Addr} {c m : Nat} (h : Owx w e size (.slice A m c) n xs sp) : c ≤ maxLen := by
  rcases h with ⟨h, _⟩ | ⟨_, _, h, _, _, _, _, h2⟩
  · cases h; exact Nat.zero_le _
  · cases h; exact h2
theorem len (h : Owx w e size v n xs sp) : xs.length = n * size := by
  rcases h with ⟨_, rfl, rfl, _⟩ | ⟨_, _, _, _, hl, _⟩
  · simp
  · exact hl
theorem blk (h : Owx w e size v n xs sp) (hn : 0 < n) : ∃ g cap, v = .slice (some ⟨g, 0, none⟩) n cap ∧ Blk w g e (xs ++ sp) ∧ xs.length = n * size ∧ cap * size ≤ xs.length + sp.length ∧ n ≤ cap ∧ cap ≤ maxLen := by
  rcases h with ⟨_, rfl, _⟩ | h
  · omega
  · exact h
end Owx
section
variable {P : Program} (w : World)
theorem run_appx (t ty e : TypeId) (z : Value) (size bytes : Nat) (ht : P.underlying t = some (.slice e)) (hinfo : (P.info? e).map (fun i => (i.zero, i.size, i.bytes)) = some (some z, size, bytes))
    (hzs : z.cells.size = size) (hsz : 0 < size) {v : Value} {n : Nat} {xs sp : List Value} (hown : Owx w e size v n xs sp)
    (A : Option Addr) (m c : Nat) {news : List Value} (hl : news.length = m * size) (hr : Rd w A news) (h1 : ∀ u ∈ news, u.oneCell' = true) (h63 : n + m ≤ maxLen) (hbytes : (n + m) * bytes ≤ 140737488355328) :
    ∃ v' w' sp', (Builtin.append_ #[t, t] ty #[v, .slice A m c]).run P w = .ok v' w' ∧ Owx w' e size v' (n + m) (xs ++ news) sp' ∧ Lay w w' v v' := by
  obtain ⟨i, hi, hz, hsize, hby⟩ := info_parts hinfo
  rcases A with _ | ad
  · have hm : m = 0 := by
      rcases Nat.eq_zero_or_pos m with h0 | h0
      · exact h0
      · have : news ≠ [] := by
          rintro rfl
          have h2 : 0 < m * size := Nat.mul_pos h0 hsz
          simp only [List.length_nil] at hl
          omega
        obtain ⟨ad, h, _⟩ := hr this
        cases h
    subst hm
    have hn : news = [] := List.eq_nil_of_length_eq_zero (by simpa using hl)
    subst hn
    refine ⟨v, w, sp, ?_, by simpa using hown, .inl ⟨rfl, Frm.refl _ _⟩⟩
    rcases hown with ⟨rfl, rfl, _, _⟩ | ⟨g, cap, rfl, _, _, _, hnc, _⟩
    · simp [Builtin.append_, run_underlying ht, sizeOf, typeInfo, hi, Builtin.lenOf, Builtin.firstCells]
    · simp [Builtin.append_, run_underlying ht, sizeOf, typeInfo, hi, Builtin.lenOf, Builtin.firstCells, hnc, storeCells]
  · have hcells : ∀ j u, news[j]? = some u → w.cell? (ad.add j) = some u := by
      intro j u hu
      obtain ⟨ad', h, hc⟩ := hr (by rintro rfl; simp at hu)
      cases h
      exact hc j u hu
    subst hsize
    subst hby
    have hsmall : n + m ≤ 9223372036854775807 := by simp only [maxLen] at h63; omega
    have hxl : xs.length = n * i.size := hown.len
    have hlen : (xs ++ news).length = (n + m) * i.size := by rw [List.length_append, hxl, hl, Nat.add_mul]
    have grown : ∀ (old : Nat), old < n + m → ∃ sp',
        Owx (w.drew.alloc (.cells (xs.toArray ++ news.toArray ++ Builtin.zeroCells z.cells (grownCap w (n + m) old e - (n + m))) e)) e i.size (.slice (some ⟨w.heap.size, 0, none⟩) (n + m) (grownCap w (n + m) old e)) (n + m) (xs ++ news) sp' ∧
        Frm (fun _ => False) w (w.drew.alloc (.cells (xs.toArray ++ news.toArray ++ Builtin.zeroCells z.cells (grownCap w (n + m) old e - (n + m))) e)) := by
      intro old ho
      have hge := grownCap_ge w (n + m) old e
      have hcm : grownCap w (n + m) old e ≤ maxLen := grownCap_le_maxLen w (n + m) old e h63
      refine ⟨(Builtin.zeroCells z.cells (grownCap w (n + m) old e - (n + m))).toList, .inr ⟨w.heap.size, _, rfl, ?_, hlen, ?_, hge, hcm⟩, ((Frm.refl _ w).drew).alloc _⟩
      · unfold Blk
        rw [show (w.drew.alloc _).heap[w.heap.size]? = _ from heap_alloc_new w.drew _]
        congr 2
        apply Array.ext'
        simp
      · rw [hlen, Array.length_toList, size_zeroCells, hzs, ← Nat.add_mul]
        apply Nat.mul_le_mul_right
        omega
    rcases hown with ⟨rfl, rfl, rfl, rfl⟩ | ⟨g, cap, rfl, hb, hl2, hc2, hnc, hcm⟩
    · by_cases hm : m = 0
      · subst hm
        have hn : news = [] := List.eq_nil_of_length_eq_zero (by simpa using hl)
        subst hn
        refine ⟨.slice none 0 0, w, [], ?_, .inl ⟨rfl, rfl, rfl, rfl⟩, .inl ⟨rfl, Frm.refl _ _⟩⟩
        simp [Builtin.append_, run_underlying ht, sizeOf, typeInfo, hi, Builtin.lenOf, Builtin.firstCells, loadCells, loadCellsFrom]
      · have hrun := run_append_nil (P := P) w t ty e i z ht hi hz ad m c news hl hcells (by omega) (by omega) (by have hb := hbytes; simp only [Nat.zero_add] at hb; omega)
        obtain ⟨sp', ho', hf'⟩ := grown 0 (by omega)
        simp only [Nat.zero_add, List.nil_append, Array.empty_append] at ho' hf' ⊢
        exact ⟨_, _, sp', hrun, ho', .inr ⟨rfl, hf'⟩⟩
    · have hg : w.heap[g]? = some (.cells (xs ++ sp).toArray e (0, 0)) := hb
      by_cases hroom : n + m ≤ cap
      · have hcs : cap * i.size ≤ (xs ++ sp).toArray.size := by simpa using hc2
        have hfit : n * i.size + news.length ≤ (xs ++ sp).toArray.size := by rw [hl, ← Nat.add_mul]; exact Nat.le_trans (Nat.mul_le_mul_right _ hroom) hcs
        have hrun := run_append_room (P := P) w t ty e i ht hi g n cap (xs ++ sp).toArray hg ad m c news hl hcells h1 hroom hfit
        refine ⟨_, _, sp.drop news.length, hrun, .inr ⟨g, cap, rfl, ?_, hlen, ?_, hroom, hcm⟩, .inl ⟨rfl, ⟨rfl, rfl, rfl, by simp, fun k _ hk => setRow_other w g k _ (fun e => hk (by simp [Value.ownBlock, e]))⟩⟩⟩
        · unfold Blk
          rw [setRow_heap w g (xs ++ sp).toArray _ e _ hg]
          have e1 : List.take (n * i.size) (xs ++ sp) ++ news ++ List.drop (n * i.size + news.length) (xs ++ sp) = xs ++ news ++ sp.drop news.length := by
            rw [← hl2, List.take_left, ← List.drop_drop, List.drop_left]
          rw [show List.take (n * i.size) (xs ++ sp).toArray.toList ++ news ++ List.drop (n * i.size + news.length) (xs ++ sp).toArray.toList = _ from e1]
        · rw [hlen, List.length_drop]
          have h2 : cap * i.size ≤ (xs ++ sp).length := by rw [List.length_append]; exact hc2
          have h3 : (n + m) * i.size ≤ cap * i.size := Nat.mul_le_mul_right _ hroom
          rw [List.length_append, hl2] at h2
          rw [Nat.add_mul] at h3 ⊢
          rw [hl]
          omega
      · have holds : ∀ j u, xs[j]? = some u → w.cell? ((⟨g, 0, none⟩ : Addr).add j) = some u := by
          intro j u hu
          obtain ⟨ad', e', hc⟩ := Rd.of_blk hb (by rintro rfl; simp at hu)
          cases e'
          exact hc j u hu
        have hrun := run_append_grow (P := P) w t ty e i z ht hi hz ⟨g, 0, none⟩ n cap xs hl2 holds ad m c news hl hcells (by omega) (by omega) (growslice_fits (by omega) hbytes)
        obtain ⟨sp', ho', hf'⟩ := grown cap (by omega)
        exact ⟨_, _, sp', hrun, ho', .inr ⟨rfl, hf'⟩⟩

theorem wpList_appx {ops : Array Oper} {rest : List Oper} {o : Oper} {a : Act} {Q : Exit → Act → World → Prop} (hgd : o.guard = none) (s x : Operand) (t : TypeId)
    (ho : o.op = .call { callee := .builtin .append, args := #[s, x], argTypes := #[t, t] })
    (e : TypeId) (z : Value) (size bytes : Nat) (ht : P.underlying t = some (.slice e)) (hinfo : (P.info? e).map (fun i => (i.zero, i.size, i.bytes)) = some (some z, size, bytes))
    (hzs : z.cells.size = size) (hsz : 0 < size) {v : Value} {n : Nat} {xs sp : List Value} (hs : a.eval s = v) (hown : Owx w e size v n xs sp)
    {A : Option Addr} {m c : Nat} {news : List Value} (hx : a.eval x = .slice A m c) (hl : news.length = m * size) (hr : Rd w A news) (h1 : ∀ u ∈ news, u.oneCell' = true)
    (h63 : n + m ≤ maxLen) (hbytes : (n + m) * bytes ≤ 140737488355328)
    (h : ∀ v' w' sp', Owx w' e size v' (n + m) (xs ++ news) sp' → Lay w w' v v' → wpList P ops Q rest (a.put o.dst v') w') :
    wpList P ops Q (o :: rest) a w := by
  refine wpList_plain hgd fun K hK => ?_
  obtain ⟨v', w', sp', hr', h2, h3⟩ := run_appx (P := P) w t o.type e z size bytes ht hinfo hzs hsz hown A m c hl hr h1 h63 hbytes
  unfold Oper.wp execOp
  simp only [ho, resolve, invoke, builtin, Sem.run_bind, Sem.run_pure, Result.andThen_ok, List.map_toArray, List.map_cons, List.map_nil, hs, hx, hr']
  exact hK _ _ (h v' w' sp' h2 h3)

theorem step_appx {ops : Array Oper} {o : Oper} {a : Act} {K : Act → World → Prop} {Q : Exit → Act → World → Prop} {E : Prop} (hgd : o.guard = none) (s x : Operand) (t : TypeId)
    (ho : o.op = .call { callee := .builtin .append, args := #[s, x], argTypes := #[t, t] })
    (e : TypeId) (z : Value) (size bytes : Nat) (ht : P.underlying t = some (.slice e)) (hinfo : (P.info? e).map (fun i => (i.zero, i.size, i.bytes)) = some (some z, size, bytes))
    (hzs : z.cells.size = size) (hsz : 0 < size) {v : Value} {n : Nat} {xs sp : List Value} (hs : a.eval s = v) (hown : Owx w e size v n xs sp)
    {A : Option Addr} {m c : Nat} {news : List Value} (hx : a.eval x = .slice A m c) (hl : news.length = m * size) (hr : Rd w A news) (h1 : ∀ u ∈ news, u.oneCell' = true)
    (h63 : n + m ≤ maxLen) (hbytes : (n + m) * bytes ≤ 140737488355328)
    (h : ∀ v' w' sp', Owx w' e size v' (n + m) (xs ++ news) sp' → Lay w w' v v' → K (a.put o.dst v') w') :
    if Region.wanted o (yielded ops a.tmps) = true then Oper.wp P o a w K Q else E := by
  have hw : Region.wanted o (yielded ops a.tmps) = true := by simp [Region.wanted, hgd]
  rw [if_pos hw]
  obtain ⟨v', w', sp', hr', h2, h3⟩ := run_appx (P := P) w t o.type e z size bytes ht hinfo hzs hsz hown A m c hl hr h1 h63 hbytes
  unfold Oper.wp execOp
  simp only [ho, resolve, invoke, builtin, Sem.run_bind, Sem.run_pure, Result.andThen_ok, List.map_toArray, List.map_cons, List.map_nil, hs, hx, hr']
  exact h v' w' sp' h2 h3
end
/-- A slice that is lent: up to its length it is its holder's own, its array goes on. -/
theorem Owx.clip {w : World} {e : TypeId} {size : Nat} {v : Value} {n : Nat} {xs sp : List Value} {A : Option Addr} {c : Nat} (h : Owx w e size v n xs sp) (hv : v = .slice A n c) : Owx w e size (.slice A n n) n xs sp := by
  rcases h with ⟨rfl, rfl, rfl, rfl⟩ | ⟨g, cap, rfl, hb, hl, hc, hn, hm⟩
  · cases hv; exact .inl ⟨rfl, rfl, rfl, rfl⟩
  · cases hv; exact .inr ⟨g, n, rfl, hb, hl, by omega, Nat.le_refl _, Nat.le_trans hn hm⟩
theorem Blk.bel {w w' : World} {g : Nat} {t : TypeId} {cs : List Value} (h : Blk w g t cs) (hb : Below w.heap.size w w') : Blk w' g t cs := h.frm (ex := fun _ => False) (Frm.of_below hb) id
theorem bel_drew {B : Nat} {w w' : World} (h : Below B w w') : Below B w w'.drew := ⟨h.os, h.tape, h.output, h.size, h.block⟩
theorem bel_drewN {B : Nat} {w w' : World} (h : Below B w w') (n : Nat) : Below B w (w'.drewN n) := ⟨h.os, h.tape, h.output, h.size, h.block⟩
/-- What was there before the blocks that are written. -/
theorem Rd.frm2 {w0 w w' : World} {A : Option Addr} {cs : List Value} {ex : Nat → Prop} (h : Rd w A cs) (h0 : Rd w0 A cs) (hf : Frm ex w w') (hx : ∀ q, ex q → w0.heap.size ≤ q) : Rd w' A cs := fun hne => by
  obtain ⟨ad, e, hlt⟩ := h0.blocks hne
  exact (h.frm hf (fun ad' e' hq => by rw [e] at e'; cases e'; have := hx _ hq; omega)) hne
theorem bel_drawn {w w' : World} (h : ∃ m, w' = w.drewN m) : Below w.heap.size w w' := by
  obtain ⟨m, rfl⟩ := h
  exact bel_drewN (Below.refl _ w) m
theorem bel_alloc {w w' : World} {B : Nat} (h : Below B w w') (hB : B ≤ w.heap.size) (o : Obj) : Below B w (w'.alloc o) := h.alloc (Nat.le_trans hB h.size) o
/-- One byte of one's own slice written. -/
theorem Owx.put {w : World} {e : TypeId} {A : Option Addr} {m c : Nat} {L : List UInt8} {sp : List Value} (h : Owx w e 1 (.slice A m c) m (u8s L) sp) {k : Nat} (hk : k < m) :
    ∃ g, A = some ⟨g, 0, none⟩ ∧ w.cell? ⟨g, k, none⟩ = some (.int .u8 ((bt L k).toNat : Int)) ∧ w.frozen? ⟨g, k, none⟩ = false ∧ ∀ b : UInt8, Owx (w.setCell ⟨g, k, none⟩ (.int .u8 (b.toNat : Int))) e 1 (.slice A m c) m (u8s (L.set k b)) sp := by
  obtain ⟨g, cap, he, hb, hl, hc, hn, hm⟩ := h.blk (by omega)
  cases he
  rw [u8s_length, Nat.mul_one] at hl
  refine ⟨g, rfl, ?_, hb.frozen k, fun b => .inr ⟨g, c, rfl, ?_, by rw [u8s_length, List.length_set]; omega, by rw [u8s_length, List.length_set, ← u8s_length]; exact hc, hn, hm⟩⟩
  · rw [hb.cell, List.getElem?_append_left (by rw [u8s_length]; omega), u8s_bt L k (by omega)]
  · have h2 := hb.set_ k (.int .u8 (b.toNat : Int))
    rw [List.set_append_left _ _ (by rw [u8s_length]; omega)] at h2
    rw [show (u8s L).set k (.int .u8 (b.toNat : Int)) = u8s (L.set k b) from u8s_set L k b] at h2
    exact h2
/-- Behind an append the old slice reads as before. -/
theorem Lay.old {w w' : World} {e : TypeId} {A : Option Addr} {n c size N : Nat} {v' : Value} {xs sp news sp' : List Value} (hy : Lay w w' (.slice A n c) v') (h : Owx w e size (.slice A n c) n xs sp) (h' : Owx w' e size v' N (xs ++ news) sp') : Rd w' A xs := by
  rcases h with ⟨he, rfl, rfl, rfl⟩ | ⟨g, cap, he, hb, hl, hc, hn, hm⟩
  · exact Rd.nil _ _
  · cases he
    rcases hy with ⟨h1, h2⟩ | ⟨h1, h2⟩
    · rcases h' with ⟨rfl, _⟩ | ⟨g', cap', rfl, hb', _⟩
      · cases h1
      · have : g' = g := Option.some.inj h1
        subst this
        rw [List.append_assoc] at hb'
        exact Rd.of_blk hb'
    · exact (Rd.of_blk hb).frm h2 (fun _ _ => id)
theorem back_same {P : Program} {f : FuncId} {args : Array Value} {w : World} {v : Value} (h : Calls P f args w (fun e w' => e = .returned v ∧ w = w')) : Calls P f args w (fun e w' => e = .returned v ∧ w' = w) :=
  h.mono fun _ _ h => ⟨h.1, h.2.symm⟩
end Go.Proofs.Ytagfcndpblekkaa
