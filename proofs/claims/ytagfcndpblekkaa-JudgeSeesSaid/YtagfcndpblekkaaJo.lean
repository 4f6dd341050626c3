/- The walk of judge.New. -/
import Derived.Test.YtagfcndpblekkaaJn
namespace Go.Proofs.Ytagfcndpblekkaa
open Go.RowKit Go.Maps
set_option linter.unusedVariables false
set_option linter.unusedSimpArgs false
def bls (m : List Bool) : List Value := m.map Value.bool
theorem bls_len (m : List Bool) : (bls m).length = m.length := by simp [bls]
theorem bls_at (m : List Bool) (k : Nat) (h : k < m.length) : (bls m)[k]? = some (.bool (m.getD k false)) := by
  rw [List.getD_eq_getElem?_getD, List.getElem?_eq_getElem h]
  simp [bls, h]
theorem iv_at (l : List Int) (k : Nat) (h : k < l.length) : (iv l)[k]? = some (.int .i64 (l.getD k 0)) := by
  rw [List.getD_eq_getElem?_getD, List.getElem?_eq_getElem h]
  simp [iv, h]
theorem iv_set (l : List Int) (k : Nat) (v : Int) : (iv l).set k (.int .i64 v) = iv (l.set k v) := by simp [iv, List.map_set]
def intJ : Value → Nat
  | .int _ x => x.toNat
  | _ => 0
/-- The state of New's loop behind k blocks. -/
def newK (n : Nat) (pg : Int) (m : List Bool) (clean : Bool) (k : Nat) : JS :=
  { ma := fun x => if 0 ≤ x ∧ x < k ∧ m.getD x.toNat false = true then 1 else 0, tr := fun _ _ => 0, fl := List.replicate k (nx0 pg clean) ++ List.replicate (n - k) 0, tp := List.replicate n 0, wr := List.replicate n 0 }
theorem has_jp {w0 w : World} {b pg sc : Int} {n bm bt ff tt ww : Nat} (m : List Bool) (clean : Bool) (h : Has w0 w [(bm, MO), (bt, MO), (ff, SO n), (tt, SO n), (ww, SO n)]) :
    JP (w.alloc (.cells (stV ⟨w.heap.size, bm, bt, ff, tt, ww⟩ n b pg sc).toArray 83)) ⟨w.heap.size, bm, bt, ff, tt, ww⟩ n b pg sc (newK n pg m clean 0) 0 ∧ (∀ k, (⟨w.heap.size, bm, bt, ff, tt, ww⟩ : JA).own k → w0.heap.size ≤ k) := by
  obtain ⟨h1, h2, h3⟩ := h
  have g1 := h2 (bm, MO) (by simp)
  have g2 := h2 (bt, MO) (by simp)
  have g3 := h2 (ff, SO n) (by simp)
  have g4 := h2 (tt, SO n) (by simp)
  have g5 := h2 (ww, SO n) (by simp)
  have hlt : ∀ (k : Nat) (o : Obj), w.heap[k]? = some o → k < w.heap.size := fun k o h => by
    rcases Nat.lt_or_ge k w.heap.size with h4 | h4
    · exact h4
    · rw [Array.getElem?_eq_none h4] at h; cases h
  have l1 := hlt _ _ g1.1
  have l2 := hlt _ _ g2.1
  have l3 := hlt _ _ g3.1
  have l4 := hlt _ _ g4.1
  have l5 := hlt _ _ g5.1
  simp only at l1 l2 l3 l4 l5
  simp at h3
  have mI : MapI w bm 0 (fun _ => 0) := by
    have hb : w.heap[bm]? = some (.map #[] 0) := g1.1
    obtain ⟨D, hD⟩ := World.ownsMap_made w Try.prog 3 (plainElem (H := Unit) Try.prog 3)
    obtain ⟨clock, e1, e2, e3, e4⟩ := hD
    have e5 : (w.alloc (.map #[] 0)).heap[w.heap.size]? = some (.map #[] 0) := heap_alloc_new w _
    rw [e5] at e1
    cases e1
    exact ⟨.map [], ⟨#[], 0, hb, e2, e3, e4⟩, fun x _ => rfl⟩
  have mT : MapT w bt 0 (fun _ _ => 0) := by
    have hb : w.heap[bt]? = some (.map #[] 0) := g2.1
    obtain ⟨D, hD⟩ := World.ownsMap_made w Try.prog 85 (plainElem (H := Unit) Try.prog 3)
    obtain ⟨clock, e1, e2, e3, e4⟩ := hD
    have e5 : (w.alloc (.map #[] 0)).heap[w.heap.size]? = some (.map #[] 0) := heap_alloc_new w _
    rw [e5] at e1
    cases e1
    exact ⟨.map [], ⟨#[], 0, hb, e2, e3, e4⟩, fun x y l _ => rfl⟩
  have bA := bel_alloc (Below.refl w.heap.size w) (Nat.le_refl _) (.cells (stV ⟨w.heap.size, bm, bt, ff, tt, ww⟩ n b pg sc).toArray 83)
  have hz : newK n pg m clean 0 = { ma := fun _ => 0, tr := fun _ _ => 0, fl := List.replicate n 0, tp := List.replicate n 0, wr := List.replicate n 0 } := by
    unfold newK
    congr 1
    funext x
    rw [if_neg (by omega)]
  rw [hz]
  refine ⟨⟨Blk.new w _ _, mI.frm (ex := fun _ => False) (Frm.of_below bA) id, mT.frm (ex := fun _ => False) (Frm.of_below bA) id, Blk.frm (ex := fun _ => False) (show Blk w ff 3 _ from g3.1) (Frm.of_below bA) id, Blk.frm (ex := fun _ => False) (show Blk w tt 3 _ from g4.1) (Frm.of_below bA) id, Blk.frm (ex := fun _ => False) (show Blk w ww 3 _ from g5.1) (Frm.of_below bA) id, ?_⟩, ?_⟩
  · unfold JA.apart
    simp only
    omega
  · rintro k (rfl | rfl | rfl | rfl | rfl | rfl)
    · exact h1.size
    · exact g1.2
    · exact g2.2
    · exact g3.2
    · exact g4.2
    · exact g5.2
end Go.Proofs.Ytagfcndpblekkaa
