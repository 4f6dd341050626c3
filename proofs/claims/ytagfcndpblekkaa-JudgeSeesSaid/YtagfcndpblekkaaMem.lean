/- Words for memory: a block known whole, a world that is another but for some blocks. Plain lemmas; no program. -/
import Derived.WalkKit
import Derived.Test.YtagfcndpblekkaaSpec
import Derived.Below
import Derived.Laws.OwnMore
import Derived.Deep.Draws
import Derived.Deep.AppendLies
import Derived.Laws.Rows
import Derived.Maps.AppendAt
import Derived.OwnWalk
import Derived.Laws.BytesArg
import Derived.Deep.QuietTactic
import Derived.BigQuiet
import Derived.Deep.RegionLaw
namespace Go.Proofs.Ytagfcndpblekkaa
open Go.RowKit

/-- w' is w, but for new blocks and for blocks that ex lets. -/
structure Frm (ex : Nat → Prop) (w w' : World) : Prop where
  os : w'.os = w.os
  tape : w'.tape = w.tape
  output : w'.output = w.output
  size : w.heap.size ≤ w'.heap.size
  block : ∀ k, k < w.heap.size → ¬ ex k → w'.heap[k]? = w.heap[k]?

namespace Frm
variable {ex ex' : Nat → Prop} {w w' w'' : World}
theorem refl (ex : Nat → Prop) (w : World) : Frm ex w w := ⟨rfl, rfl, rfl, Nat.le_refl _, fun _ _ _ => rfl⟩
theorem trans (h : Frm ex w w') (k : Frm ex w' w'') : Frm ex w w'' :=
  ⟨k.os.trans h.os, k.tape.trans h.tape, k.output.trans h.output, Nat.le_trans h.size k.size, fun i hi hx => (k.block i (Nat.lt_of_lt_of_le hi h.size) hx).trans (h.block i hi hx)⟩
/-- A step more, whose own changes are let where they meet old blocks. -/
theorem trans2 (h : Frm ex w w') (k : Frm ex' w' w'') (hx : ∀ q, ex' q → q < w.heap.size → ex q) : Frm ex w w'' :=
  ⟨k.os.trans h.os, k.tape.trans h.tape, k.output.trans h.output, Nat.le_trans h.size k.size, fun i hi hn => (k.block i (Nat.lt_of_lt_of_le hi h.size) (fun he => hn (hx i he hi))).trans (h.block i hi hn)⟩
theorem mono (h : Frm ex w w') (he : ∀ k, k < w.heap.size → ex k → ex' k) : Frm ex' w w' := ⟨h.os, h.tape, h.output, h.size, fun k hk hx => h.block k hk (fun e => hx (he k hk e))⟩
theorem drew (h : Frm ex w w') : Frm ex w w'.drew := ⟨h.os, h.tape, h.output, h.size, h.block⟩
theorem drewN (h : Frm ex w w') (n : Nat) : Frm ex w (w'.drewN n) := ⟨h.os, h.tape, h.output, h.size, h.block⟩
theorem alloc (h : Frm ex w w') (o : Obj) : Frm ex w (w'.alloc o) :=
  h.trans ⟨rfl, rfl, rfl, by simp, fun k hk _ => Below.heap_alloc _ _ _ (by omega)⟩
theorem setCell (h : Frm ex w w') {p : Addr} (hp : p.block < w.heap.size → ex p.block) (u : Value) : Frm ex w (w'.setCell p u) :=
  ⟨h.os, h.tape, h.output, by have := h.size; simpa [World.setCell] using this, fun k hk hx => (Below.heap_setCell _ _ _ _ (fun e => hx (by subst e; exact hp hk))).trans (h.block k hk hx)⟩
theorem grown (h : Frm ex w w') {row : Option Nat} (hg : w'.grownBy w'' row) (hr : ∀ k, row = some k → k < w.heap.size → ex k) : Frm ex w w'' :=
  ⟨hg.os.trans h.os, hg.tape.trans h.tape, hg.output.trans h.output, Nat.le_trans h.size hg.size, fun k hk hx => (hg.block k (Nat.lt_of_lt_of_le hk h.size) (fun e => hx (hr k e.symm hk))).trans (h.block k hk hx)⟩
theorem below {B : Nat} (h : Frm ex w w') (hB : B ≤ w.heap.size) (hx : ∀ k, k < B → ¬ ex k) : Below B w w' := ⟨h.os, h.tape, h.output, h.size, fun k hk => h.block k (by omega) (hx k hk)⟩
theorem of_below (h : Below w.heap.size w w') : Frm ex w w' := ⟨h.os, h.tape, h.output, h.size, fun k hk _ => h.block k hk⟩
theorem cell (h : Frm ex w w') {p : Addr} (hp : p.block < w.heap.size) (hx : ¬ ex p.block) : w'.cell? p = w.cell? p := World.cell?_of_block (w := w) (h.block p.block hp hx)
end Frm

/-- Block g of the world: the cells cs of the element type t, none frozen. -/
def Blk (w : World) (g : Nat) (t : TypeId) (cs : List Value) : Prop := w.heap[g]? = some (.cells cs.toArray t (0, 0))

namespace Blk
variable {w w' : World} {g : Nat} {t : TypeId} {cs : List Value}
theorem lt (h : Blk w g t cs) : g < w.heap.size := by
  rcases Nat.lt_or_ge g w.heap.size with hlt | hge
  · exact hlt
  · unfold Blk at h; rw [Array.getElem?_eq_none hge] at h; cases h
theorem cell (h : Blk w g t cs) (i : Nat) : w.cell? ⟨g, i, none⟩ = cs[i]? := by
  rw [cell_of_row w g i cs.toArray t (0, 0) h]; simp
theorem frozen (h : Blk w g t cs) (i : Nat) : w.frozen? ⟨g, i, none⟩ = false := by
  unfold Blk at h
  simp [World.frozen?, h]
theorem drew (h : Blk w g t cs) : Blk w.drew g t cs := h
theorem drewN (h : Blk w g t cs) (n : Nat) : Blk (w.drewN n) g t cs := h
theorem frm {ex : Nat → Prop} (h : Blk w g t cs) (hf : Frm ex w w') (hx : ¬ ex g) : Blk w' g t cs := (hf.block g h.lt hx).trans h
theorem set_ (h : Blk w g t cs) (i : Nat) (u : Value) : Blk (w.setCell ⟨g, i, none⟩ u) g t (cs.set i u) := by
  unfold Blk at h ⊢
  simp [World.setCell, Array.getElem?_modify, h]
theorem far (h : Blk w g t cs) {p : Addr} (hp : g ≠ p.block) (u : Value) : Blk (w.setCell p u) g t cs := (Below.heap_setCell w p u g hp).trans h
theorem alloc (h : Blk w g t cs) (o : Obj) : Blk (w.alloc o) g t cs := (Below.heap_alloc w o g h.lt).trans h
theorem new (w : World) (t : TypeId) (cs : List Value) : Blk (w.alloc (.cells cs.toArray t)) w.heap.size t cs := heap_alloc_new w _
end Blk

/-- Bytes as cells. -/
def bv (b : UInt8) : Value := .int .u8 (b.toNat : Int)
def u8s (l : List UInt8) : List Value := l.map bv
theorem u8s_length (l : List UInt8) : (u8s l).length = l.length := by simp [u8s]
theorem u8s_get (l : List UInt8) (i : Nat) : (u8s l)[i]? = (l[i]?).map bv := by simp [u8s]
theorem u8s_append (l m : List UInt8) : u8s (l ++ m) = u8s l ++ u8s m := by simp [u8s]
theorem u8s_set (l : List UInt8) (i : Nat) (x : UInt8) : (u8s l).set i (bv x) = u8s (l.set i x) := by simp [u8s, List.map_set]
theorem u8s_bt (l : List UInt8) (i : Nat) (h : i < l.length) : (u8s l)[i]? = some (.int .u8 ((bt l i).toNat : Int)) := by rw [u8s_get, bt_get l i h]; rfl
theorem bv_lt (b : UInt8) : (b.toNat : Int) ≤ 255 := by have := b.toNat_lt; omega


/-- The address A (nil lets nothing) holds the cells cs. -/
def Rd (w : World) (A : Option Addr) (cs : List Value) : Prop := cs ≠ [] → ∃ ad, A = some ad ∧ ∀ j u, cs[j]? = some u → w.cell? (ad.add j) = some u
namespace Rd
variable {w w' : World} {A : Option Addr} {cs : List Value}
theorem nil (w : World) (A : Option Addr) : Rd w A [] := fun h => absurd rfl h
theorem at_ (h : Rd w A cs) {k : Nat} {u : Value} (hk : cs[k]? = some u) : ∃ ad, A = some ad ∧ w.cell? (ad.add k) = some u := by
  obtain ⟨ad, e, hc⟩ := h (by rintro rfl; simp at hk)
  exact ⟨ad, e, hc k u hk⟩
theorem drew (h : Rd w A cs) : Rd w.drew A cs := h
theorem alloc (h : Rd w A cs) (o : Obj) : Rd (w.alloc o) A cs := fun hne => by
  obtain ⟨ad, rfl, hc⟩ := h hne
  exact ⟨ad, rfl, fun j u hu => by rw [World.cell?_alloc_lt w o _ (World.block_lt_of_cell? w _ (hc j u hu))]; exact hc j u hu⟩
theorem drewN (h : Rd w A cs) (n : Nat) : Rd (w.drewN n) A cs := h
theorem of_blk {g : Nat} {t : TypeId} {sp : List Value} (h : Blk w g t (cs ++ sp)) : Rd w (some ⟨g, 0, none⟩) cs := fun _ => ⟨_, rfl, fun j u hu => by
  rw [Addr.add_lit, h.cell, Nat.zero_add, List.getElem?_append_left (by
    rcases Nat.lt_or_ge j cs.length with hj | hj
    · exact hj
    · rw [List.getElem?_eq_none hj] at hu; cases hu)]
  exact hu⟩
theorem keep (h : Rd w A cs) (hk : ∀ ad, A = some ad → w'.heap[ad.block]? = w.heap[ad.block]?) : Rd w' A cs := fun hne => by
  obtain ⟨ad, rfl, hc⟩ := h hne
  refine ⟨ad, rfl, fun j u hu => ?_⟩
  rw [World.cell?_of_block (w := w)]
  · exact hc j u hu
  · have := hk ad rfl
    have hb : (ad.add j).block = ad.block := by unfold Addr.add; split <;> rfl
    rw [hb]; exact this
theorem blocks (h : Rd w A cs) (hne : cs ≠ []) : ∃ ad, A = some ad ∧ ad.block < w.heap.size := by
  obtain ⟨ad, rfl, hc⟩ := h hne
  obtain ⟨u, hu⟩ : ∃ u, cs[0]? = some u := by
    cases cs with
    | nil => exact absurd rfl hne
    | cons x r => exact ⟨x, rfl⟩
  have := hc 0 u hu
  have hb := World.block_lt_of_cell? w _ this
  have he : (ad.add 0).block = ad.block := by unfold Addr.add; split <;> rfl
  exact ⟨ad, rfl, by omega⟩
theorem below (h : Rd w A cs) (hb : Below w.heap.size w w') : Rd w' A cs := fun hne => by
  obtain ⟨ad, e, hlt⟩ := h.blocks hne
  exact (h.keep (fun ad' e' => by rw [e] at e'; cases e'; exact hb.block _ hlt)) hne
theorem frm {ex : Nat → Prop} (h : Rd w A cs) (hf : Frm ex w w') (hx : ∀ ad, A = some ad → ¬ ex ad.block) : Rd w' A cs := fun hne => by
  obtain ⟨ad, e, hlt⟩ := h.blocks hne
  exact (h.keep (fun ad' e' => by rw [e] at e'; cases e'; exact hf.block _ hlt (hx _ e))) hne
end Rd

/-- The slice v of n elements (of the type e, of size cells each) is its holder's own: its cells are xs, and behind them sp up to its capacity. -/
def Own (w : World) (e : TypeId) (size : Nat) (v : Value) (n : Nat) (xs sp : List Value) : Prop :=
  (v = .slice none 0 0 ∧ n = 0 ∧ xs = [] ∧ sp = []) ∨
  ∃ g cap, v = .slice (some ⟨g, 0, none⟩) n cap ∧ Blk w g e (xs ++ sp) ∧ xs.length = n * size ∧ xs.length + sp.length = cap * size ∧ n ≤ cap ∧ cap ≤ maxLen
namespace Own
theorem alloc {w : World} {e : TypeId} {size : Nat} {v : Value} {n : Nat} {xs sp : List Value} (h : Own w e size v n xs sp) (o : Obj) : Own (w.alloc o) e size v n xs sp := by
  rcases h with h | ⟨g, cap, e, hb, r⟩
  · exact .inl h
  · exact .inr ⟨g, cap, e, hb.alloc o, r⟩
theorem drew {w : World} {e : TypeId} {size : Nat} {v : Value} {n : Nat} {xs sp : List Value} (h : Own w e size v n xs sp) : Own w.drew e size v n xs sp := h
theorem drewN {w : World} {e : TypeId} {size : Nat} {v : Value} {n : Nat} {xs sp : List Value} (h : Own w e size v n xs sp) (k : Nat) : Own (w.drewN k) e size v n xs sp := h
variable {w w' : World} {e : TypeId} {size : Nat} {v : Value} {n : Nat} {xs sp : List Value}
theorem row (h : Own w e size v n xs sp) : w.ownsRow 0 e size v n xs := by
  rcases h with ⟨rfl, rfl, rfl, rfl⟩ | ⟨g, cap, rfl, hb, hl, hc, hn, hm⟩
  · exact World.ownsRow_nil _ _ _ _
  · exact ⟨hl, .inr ⟨g, cap, _, rfl, Nat.zero_le _, hb, hn, hm, by simpa using hc, by rw [← hl]; simp⟩⟩
theorem of_row {base : Nat} (h : w.ownsRow base e size v n xs) : ∃ sp, Own w e size v n xs sp := by
  obtain ⟨hl, ⟨rfl, rfl⟩ | ⟨g, cap, cur, rfl, _, hg, hn, hm, hc, ht⟩⟩ := h
  · exact ⟨[], .inl ⟨rfl, rfl, List.eq_nil_of_length_eq_zero (by simpa using hl), rfl⟩⟩
  · refine ⟨cur.toList.drop (n * size), .inr ⟨g, cap, rfl, ?_, hl, ?_, hn, hm⟩⟩
    · unfold Blk
      rw [hg, ← ht, List.take_append_drop]
    · have h2 : xs.length + (cur.toList.drop (n * size)).length = cur.toList.length := by rw [← List.length_append, ← ht, List.take_append_drop]
      rw [h2, Array.length_toList, hc]
theorem rd (h : Own w e size v n xs sp) : ∃ A cap, v = .slice A n cap ∧ n ≤ cap ∧ Rd w A xs := by
  rcases h with ⟨rfl, rfl, rfl, rfl⟩ | ⟨g, cap, rfl, hb, hl, hc, hn, hm⟩
  · exact ⟨none, 0, rfl, Nat.le_refl _, Rd.nil _ _⟩
  · exact ⟨_, cap, rfl, hn, Rd.of_blk hb⟩
theorem blk (h : Own w e size v n xs sp) (hn : 0 < n) : ∃ g cap, v = .slice (some ⟨g, 0, none⟩) n cap ∧ Blk w g e (xs ++ sp) ∧ xs.length = n * size ∧ xs.length + sp.length = cap * size ∧ n ≤ cap ∧ cap ≤ maxLen := by
  rcases h with ⟨_, rfl, _⟩ | h
  · omega
  · exact h
theorem frm {ex : Nat → Prop} (h : Own w e size v n xs sp) (hf : Frm ex w w') (hx : ∀ k, v.ownBlock = some k → ¬ ex k) : Own w' e size v n xs sp := by
  rcases h with h | ⟨g, cap, rfl, hb, r⟩
  · exact .inl h
  · exact .inr ⟨g, cap, rfl, hb.frm hf (hx g rfl), r⟩
theorem lt (h : Own w e size v n xs sp) : ∀ k, v.ownBlock = some k → k < w.heap.size := by
  rcases h with ⟨rfl, _⟩ | ⟨g, cap, rfl, hb, _⟩
  · intro k hk; cases hk
  · intro k hk; cases hk; exact hb.lt
theorem new (w : World) (e : TypeId) (size n : Nat) (cs : List Value) (hl : cs.length = n * size) (hm : n ≤ maxLen) :
    Own (w.alloc (.cells cs.toArray e)) e size (.slice (some ⟨w.heap.size, 0, none⟩) n n) n cs [] :=
  .inr ⟨_, n, rfl, by simpa using Blk.new w e cs, hl, by simpa using hl, Nat.le_refl _, hm⟩
end Own

section
variable {P : Program} (w : World)
/-- What an append does: it writes into the old row, or lays a new one and leaves the old one. -/
def Lay (w w' : World) (v v' : Value) : Prop :=
  (v'.ownBlock = v.ownBlock ∧ Frm (fun k => v.ownBlock = some k) w w') ∨ (v'.ownBlock = some w.heap.size ∧ Frm (fun _ => False) w w')
theorem Lay.frm {w w' : World} {v v' : Value} (h : Lay w w' v v') : Frm (fun k => v.ownBlock = some k) w w' := by
  rcases h with ⟨_, h⟩ | ⟨_, h⟩
  · exact h
  · exact h.mono (fun _ _ hf => hf.elim)
theorem Lay.at_ {w w' : World} {v v' : Value} (h : Lay w w' v v') : v'.ownBlock = v.ownBlock ∨ v'.ownBlock = some w.heap.size := by
  rcases h with ⟨h, _⟩ | ⟨h, _⟩
  · exact .inl h
  · exact .inr h
theorem run_app (t ty e : TypeId) (z : Value) (size bytes : Nat) (ht : P.underlying t = some (.slice e)) (hinfo : (P.info? e).map (fun i => (i.zero, i.size, i.bytes)) = some (some z, size, bytes))
    (hzs : z.cells.size = size) (hsz : 0 < size) {v : Value} {n : Nat} {xs sp : List Value} (hown : Own w e size v n xs sp)
    (A : Option Addr) (m c : Nat) {news : List Value} (hl : news.length = m * size) (hr : Rd w A news) (h1 : ∀ u ∈ news, u.oneCell' = true) (h63 : n + m ≤ maxLen) (hbytes : (n + m) * bytes ≤ 140737488355328) :
    ∃ v' w' sp', (Builtin.append_ #[t, t] ty #[v, .slice A m c]).run P w = .ok v' w' ∧ Own w' e size v' (n + m) (xs ++ news) sp' ∧ Lay w w' v v' := by
  obtain ⟨i, hi, hz, hsize, hby⟩ := info_parts hinfo
  rcases A with _ | ad
  · have hm : m = 0 := by
      rcases Nat.eq_zero_or_pos m with h0 | h0
      · exact h0
      · have : news ≠ [] := by
          rintro rfl
          have h2 : 0 < m * size := Nat.mul_pos h0 hsz
          simp only [List.length_nil] at hl
          omega
        obtain ⟨ad, h, _⟩ := hr this
        cases h
    subst hm
    have hn : news = [] := List.eq_nil_of_length_eq_zero (by simpa using hl)
    subst hn
    refine ⟨v, w, sp, ?_, by simpa using hown, .inl ⟨rfl, Frm.refl _ _⟩⟩
    rcases hown.row.2 with ⟨rfl, rfl⟩ | ⟨g, cap, cur, rfl, _, _, hnc, _⟩
    · simp [Builtin.append_, run_underlying ht, sizeOf, typeInfo, hi, Builtin.lenOf, Builtin.firstCells]
    · simp [Builtin.append_, run_underlying ht, sizeOf, typeInfo, hi, Builtin.lenOf, Builtin.firstCells, hnc, storeCells]
  · have hcells : ∀ j u, news[j]? = some u → w.cell? (ad.add j) = some u := by
      intro j u hu
      obtain ⟨ad', h, hc⟩ := hr (by rintro rfl; simp at hu)
      cases h
      exact hc j u hu
    subst hsize
    subst hby
    have hsmall : n + m ≤ 9223372036854775807 := by simp only [maxLen] at h63; omega
    have hxl : xs.length = n * i.size := hown.row.1
    have hlen : (xs ++ news).length = (n + m) * i.size := by rw [List.length_append, hxl, hl, Nat.add_mul]
    have grown : ∀ (old : Nat), old < n + m → ∃ sp',
        Own (w.drew.alloc (.cells (xs.toArray ++ news.toArray ++ Builtin.zeroCells z.cells (grownCap w (n + m) old e - (n + m))) e)) e i.size (.slice (some ⟨w.heap.size, 0, none⟩) (n + m) (grownCap w (n + m) old e)) (n + m) (xs ++ news) sp' ∧
        Frm (fun _ => False) w (w.drew.alloc (.cells (xs.toArray ++ news.toArray ++ Builtin.zeroCells z.cells (grownCap w (n + m) old e - (n + m))) e)) := by
      intro old ho
      have hge := grownCap_ge w (n + m) old e
      have hcm : grownCap w (n + m) old e ≤ maxLen := grownCap_le_maxLen w (n + m) old e h63
      refine ⟨(Builtin.zeroCells z.cells (grownCap w (n + m) old e - (n + m))).toList, .inr ⟨w.heap.size, _, rfl, ?_, hlen, ?_, hge, hcm⟩, ((Frm.refl _ w).drew).alloc _⟩
      · unfold Blk
        rw [show (w.drew.alloc _).heap[w.heap.size]? = _ from heap_alloc_new w.drew _]
        congr 2
        apply Array.ext'
        simp
      · rw [hlen, Array.length_toList, size_zeroCells, hzs, ← Nat.add_mul]
        congr 1
        omega
    rcases hown with ⟨rfl, rfl, rfl, rfl⟩ | ⟨g, cap, rfl, hb, hl2, hc2, hnc, hcm⟩
    · by_cases hm : m = 0
      · subst hm
        have hn : news = [] := List.eq_nil_of_length_eq_zero (by simpa using hl)
        subst hn
        refine ⟨.slice none 0 0, w, [], ?_, .inl ⟨rfl, rfl, rfl, rfl⟩, .inl ⟨rfl, Frm.refl _ _⟩⟩
        simp [Builtin.append_, run_underlying ht, sizeOf, typeInfo, hi, Builtin.lenOf, Builtin.firstCells, loadCells, loadCellsFrom]
      · have hrun := run_append_nil (P := P) w t ty e i z ht hi hz ad m c news hl hcells (by omega) (by omega) (by have hb := hbytes; simp only [Nat.zero_add] at hb; omega)
        obtain ⟨sp', ho', hf'⟩ := grown 0 (by omega)
        simp only [Nat.zero_add, List.nil_append, Array.empty_append] at ho' hf' ⊢
        exact ⟨_, _, sp', hrun, ho', .inr ⟨rfl, hf'⟩⟩
    · have hg : w.heap[g]? = some (.cells (xs ++ sp).toArray e (0, 0)) := hb
      by_cases hroom : n + m ≤ cap
      · have hcs : (xs ++ sp).toArray.size = cap * i.size := by simpa using hc2
        have hfit : n * i.size + news.length ≤ (xs ++ sp).toArray.size := by rw [hl, hcs, ← Nat.add_mul]; exact Nat.mul_le_mul_right _ hroom
        have hrun := run_append_room (P := P) w t ty e i ht hi g n cap (xs ++ sp).toArray hg ad m c news hl hcells h1 hroom hfit
        refine ⟨_, _, sp.drop news.length, hrun, .inr ⟨g, cap, rfl, ?_, hlen, ?_, hroom, hcm⟩, .inl ⟨rfl, ⟨rfl, rfl, rfl, by simp, fun k _ hk => setRow_other w g k _ (fun e => hk (by simp [Value.ownBlock, e]))⟩⟩⟩
        · unfold Blk
          rw [setRow_heap w g (xs ++ sp).toArray _ e _ hg]
          have e1 : List.take (n * i.size) (xs ++ sp) ++ news ++ List.drop (n * i.size + news.length) (xs ++ sp) = xs ++ news ++ sp.drop news.length := by
            rw [← hl2, List.take_left, ← List.drop_drop, List.drop_left]
          rw [show List.take (n * i.size) (xs ++ sp).toArray.toList ++ news ++ List.drop (n * i.size + news.length) (xs ++ sp).toArray.toList = _ from e1]
        · rw [hlen, List.length_drop]
          have h2 : (xs ++ sp).length = cap * i.size := by rw [List.length_append]; exact hc2
          have h3 : (n + m) * i.size ≤ cap * i.size := Nat.mul_le_mul_right _ hroom
          rw [List.length_append, hl2] at h2
          rw [Nat.add_mul] at h3 ⊢
          rw [hl]
          omega
      · have holds : ∀ j u, xs[j]? = some u → w.cell? ((⟨g, 0, none⟩ : Addr).add j) = some u := by
          intro j u hu
          obtain ⟨ad', e', hc⟩ := Rd.of_blk hb (by rintro rfl; simp at hu)
          cases e'
          exact hc j u hu
        have hrun := run_append_grow (P := P) w t ty e i z ht hi hz ⟨g, 0, none⟩ n cap xs hl2 holds ad m c news hl hcells (by omega) (by omega) (growslice_fits (by omega) hbytes)
        obtain ⟨sp', ho', hf'⟩ := grown cap (by omega)
        exact ⟨_, _, sp', hrun, ho', .inr ⟨rfl, hf'⟩⟩

theorem wpList_app {ops : Array Oper} {rest : List Oper} {o : Oper} {a : Act} {Q : Exit → Act → World → Prop} (hgd : o.guard = none) (s x : Operand) (t : TypeId)
    (ho : o.op = .call { callee := .builtin .append, args := #[s, x], argTypes := #[t, t] })
    (e : TypeId) (z : Value) (size bytes : Nat) (ht : P.underlying t = some (.slice e)) (hinfo : (P.info? e).map (fun i => (i.zero, i.size, i.bytes)) = some (some z, size, bytes))
    (hzs : z.cells.size = size) (hsz : 0 < size) {v : Value} {n : Nat} {xs sp : List Value} (hs : a.eval s = v) (hown : Own w e size v n xs sp)
    {A : Option Addr} {m c : Nat} {news : List Value} (hx : a.eval x = .slice A m c) (hl : news.length = m * size) (hr : Rd w A news) (h1 : ∀ u ∈ news, u.oneCell' = true)
    (h63 : n + m ≤ maxLen) (hbytes : (n + m) * bytes ≤ 140737488355328)
    (h : ∀ v' w' sp', Own w' e size v' (n + m) (xs ++ news) sp' → Lay w w' v v' → wpList P ops Q rest (a.put o.dst v') w') :
    wpList P ops Q (o :: rest) a w := by
  refine wpList_plain hgd fun K hK => ?_
  obtain ⟨v', w', sp', hr', h2, h3⟩ := run_app (P := P) w t o.type e z size bytes ht hinfo hzs hsz hown A m c hl hr h1 h63 hbytes
  unfold Oper.wp execOp
  simp only [ho, resolve, invoke, builtin, Sem.run_bind, Sem.run_pure, Result.andThen_ok, List.map_toArray, List.map_cons, List.map_nil, hs, hx, hr']
  exact hK _ _ (h v' w' sp' h2 h3)

theorem step_app {ops : Array Oper} {o : Oper} {a : Act} {K : Act → World → Prop} {Q : Exit → Act → World → Prop} {E : Prop} (hgd : o.guard = none) (s x : Operand) (t : TypeId)
    (ho : o.op = .call { callee := .builtin .append, args := #[s, x], argTypes := #[t, t] })
    (e : TypeId) (z : Value) (size bytes : Nat) (ht : P.underlying t = some (.slice e)) (hinfo : (P.info? e).map (fun i => (i.zero, i.size, i.bytes)) = some (some z, size, bytes))
    (hzs : z.cells.size = size) (hsz : 0 < size) {v : Value} {n : Nat} {xs sp : List Value} (hs : a.eval s = v) (hown : Own w e size v n xs sp)
    {A : Option Addr} {m c : Nat} {news : List Value} (hx : a.eval x = .slice A m c) (hl : news.length = m * size) (hr : Rd w A news) (h1 : ∀ u ∈ news, u.oneCell' = true)
    (h63 : n + m ≤ maxLen) (hbytes : (n + m) * bytes ≤ 140737488355328)
    (h : ∀ v' w' sp', Own w' e size v' (n + m) (xs ++ news) sp' → Lay w w' v v' → K (a.put o.dst v') w') :
    if Region.wanted o (yielded ops a.tmps) = true then Oper.wp P o a w K Q else E := by
  have hw : Region.wanted o (yielded ops a.tmps) = true := by simp [Region.wanted, hgd]
  rw [if_pos hw]
  obtain ⟨v', w', sp', hr', h2, h3⟩ := run_app (P := P) w t o.type e z size bytes ht hinfo hzs hsz hown A m c hl hr h1 h63 hbytes
  unfold Oper.wp execOp
  simp only [ho, resolve, invoke, builtin, Sem.run_bind, Sem.run_pure, Result.andThen_ok, List.map_toArray, List.map_cons, List.map_nil, hs, hx, hr']
  exact h v' w' sp' h2 h3
end
/-- Where the row of an append lies: not below B, if the old one did not. -/
theorem fresh_app {B N : Nat} {v v' : Value} (hB : B ≤ N) (h : ∀ k, v.ownBlock = some k → B ≤ k) (hat : v'.ownBlock = v.ownBlock ∨ v'.ownBlock = some N) : ∀ k, v'.ownBlock = some k → B ≤ k := by
  intro k hk
  rcases hat with e | e
  · exact h k (e ▸ hk)
  · rw [hk] at e; cases e; exact hB
theorem below_frm {B : Nat} {ex : Nat → Prop} {a w w' : World} (h : Below B a w) (hB : B ≤ w.heap.size) (hf : Frm ex w w') (hx : ∀ k, ex k → B ≤ k) : Below B a w' :=
  h.trans (hf.below hB (fun k hk he => by have := hx k he; omega))
/-- string(b) of a slice that reads as a list. -/
theorem rd_string {P : Program} {w : World} {A : Option Addr} {n c : Nat} {l : List UInt8} (src dst e : TypeId) (hs : P.underlying src = some (.slice e)) (he : P.underlying e = some (.int .u8)) (hd : P.underlying dst = some .string)
    (hl : l.length = n) (h : Rd w A (u8s l)) : (convert src dst (.slice A n c)).run P w = .ok (.string ⟨l.toArray⟩) w := by
  subst hl
  have key : strOfNums (l.map fun b => (b.toNat : Int)) = ⟨l.toArray⟩ := by
    simp [strOfNums, Function.comp_def]
  rcases A with _ | ad
  · cases l with
    | nil => exact run_convert_bytes_nil w src e hs he _ c dst hd
    | cons x r =>
      obtain ⟨ad, h', _⟩ := h (by simp [u8s])
      cases h'
  · have hcl : (loadCells ad l.length).run P w = .ok ((l.map fun b => (b.toNat : Int)).map (Value.int .u8)).toArray w := by
      have := run_loadCells_list (P := P) w ad (u8s l) (fun j v hj => by
        obtain ⟨ad', he', hc⟩ := h (by rintro e; rw [e] at hj; simp at hj)
        injection he' with he'
        subst he'
        exact hc j v hj)
      have hu : (l.map fun b => (b.toNat : Int)).map (Value.int .u8) = u8s l := by rw [List.map_map]; rfl
      rw [hu]
      simpa [u8s_length] using this
    rw [run_convert_bytes_string w src dst e _ l.length c hs he hd, run_bytesToString w ad l.length c _ hcl, foldl_push_bytes]
    rw [← key]
    simp [strOfNums, ByteArray.empty, ByteArray.emptyWithCapacity, Function.comp_def]
    rfl
/-- A new block of cells reads as they are. -/
theorem rd_new (w : World) (t : TypeId) (cs : List Value) : Rd (w.alloc (.cells cs.toArray t)) (some ⟨w.heap.size, 0, none⟩) cs := Rd.of_blk (sp := []) (by simpa using Blk.new w t cs)
theorem rd_one (w : World) (t : TypeId) (u : Value) : Rd (w.alloc (.cells #[u] t)) (some ⟨w.heap.size, 0, none⟩) [u] := rd_new w t [u]
theorem one_int (k : IntKind) (x : Int) : ∀ u ∈ [Value.int k x], u.oneCell' = true := by
  intro u hu
  simp only [List.mem_singleton] at hu
  subst hu
  rfl
theorem one_slice (a : Option Addr) (n c : Nat) : ∀ u ∈ [Value.slice a n c], u.oneCell' = true := by
  intro u hu
  simp only [List.mem_singleton] at hu
  subst hu
  rfl
theorem one_u8s (l : List UInt8) : ∀ u ∈ u8s l, u.oneCell' = true := by
  intro u hu
  simp only [u8s, List.mem_map] at hu
  obtain ⟨x, _, rfl⟩ := hu
  rfl

end Go.Proofs.Ytagfcndpblekkaa
