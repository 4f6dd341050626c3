/- Maps as functions: whole number -> whole number, page -> whole number. -/
import Derived.Test.YtagfcndpblekkaaChecked
import Derived.Test.YtagfcndpblekkaaOwn
import Derived.Maps.OwnSet
import Derived.DeepKeys4
namespace Go.Proofs.Ytagfcndpblekkaa
open Go.RowKit Go.Maps
set_option linter.unusedVariables false
set_option linter.unusedSimpArgs false
def I64 (x : Int) : Prop := -9223372036854775808 ≤ x ∧ x ≤ 9223372036854775807
theorem wf_of {x : Int} (h : I64 x) : (Lit.int .i64 x).wf = true := by
  unfold I64 at h
  simpa [Lit.wf, IntKind.min, IntKind.max, IntKind.signed, IntKind.bits] using h
theorem laidP : laidOutB Try.prog = true := by kernel_rfl
theorem lawI : Keyed Try.prog 3 := int_keyed Try.underlying3
theorem lawT : Keyed Try.prog 85 := Keyed.of_law (deep_law_laid laidP (m := 100) (by decide) (of_decide_eq_true (by kernel_rfl)) (by kernel_rfl) (by kernel_rfl))
theorem keyI {x : Int} (h : I64 x) : keyOf Try.prog 3 (.int .i64 x) = some (.int .i64 x) := keyOf_int_mk Try.underlying3 (wf_of h)
theorem keyT {x y : Int} (hx : I64 x) (hy : I64 y) : ∃ l, keyOf Try.prog 85 (.agg #[.int .i64 x, .int .i64 y]) = some l := by
  have hkt : Try.prog.keyType 85 = true := by kernel_rfl
  have hc : Try.prog.cellsOf 85 = 2 := by kernel_rfl
  have hci : Try.prog.cellsOf 3 = 1 := by kernel_rfl
  have hsz : ∃ m, Try.prog.types.size = m + 1 := ⟨Try.prog.types.size - 1, by decide +kernel⟩
  obtain ⟨m, hm⟩ := hsz
  unfold keyOf
  simp only [Try.underlying85]
  rw [if_pos (by simp [hkt, Value.formed, Try.underlying85, hc]), hm]
  unfold Program.keyLits
  simp only [Try.underlying85, Value.cells]
  refine ⟨.string (keyBytes [.int .i64 x, .int .i64 y]), ?_⟩
  rw [if_pos (by rw [hc]; exact ⟨rfl, by decide +kernel⟩)]
  simp only [List.mapM_cons, List.mapM_nil]
  cases m with
  | zero => exact absurd hm (by decide +kernel)
  | succ m =>
    simp [hci, Program.keyLits, Try.underlying3, wf_of hx, wf_of hy]
theorem zeroI (w : World) : (zeroValue 3).run Try.prog w = .ok (.int .i64 0) w := by kernel_rfl
/-- Block b is a map of at most n entries that reads as f. -/
def MapI (w : World) (b n : Nat) (f : Int → Int) : Prop := ∃ D : DataW Unit, w.ownsMap Try.prog 3 (plainElem Try.prog 3) b n D ∧ ∀ x, I64 x → D.atKey (.int .i64 x) (.lit (.int .i64 0)) = .lit (.int .i64 (f x))
def MapT (w : World) (b n : Nat) (f : Int → Int → Int) : Prop := ∃ D : DataW Unit, w.ownsMap Try.prog 85 (plainElem Try.prog 3) b n D ∧ ∀ x y l, keyOf Try.prog 85 (.agg #[.int .i64 x, .int .i64 y]) = some l → D.atKey l (.lit (.int .i64 0)) = .lit (.int .i64 (f x y))
theorem grown_frm {w w' : World} {b : Nat} (h : w.grownBy w' (some b)) : Frm (fun q => q = b) w w' := (Frm.refl (fun q => q = b) w).grown h (fun k e _ => by cases e; rfl)
theorem turned_frm {w w' : World} {b : Nat} (h : w.mapTurned w' b) : Frm (fun q => q = b) w w' := by
  obtain ⟨es, clock, es', clock', hb, rfl⟩ := h
  exact ⟨rfl, rfl, rfl, by simp [Go.ChangeMaps.setBlock], fun k _ hk => Go.ChangeMaps.heap_setBlock_other hb _ hk⟩
namespace MapI
variable {w w' : World} {b n : Nat} {f : Int → Int}
theorem made (w : World) : MapI (w.alloc (.map #[] 0)) w.heap.size 0 (fun _ => 0) := ⟨.map [], World.ownsMap_made _ _ _ _, fun x _ => rfl⟩
theorem mono (h : MapI w b n f) {n' : Nat} (hn : n ≤ n') : MapI w b n' f := by obtain ⟨D, h1, h2⟩ := h; exact ⟨D, h1.mono hn, h2⟩
theorem lt (h : MapI w b n f) : b < w.heap.size := by obtain ⟨D, h1, h2⟩ := h; exact h1.lt
theorem frm {ex : Nat → Prop} (h : MapI w b n f) (hf : Frm ex w w') (hx : ¬ ex b) : MapI w' b n f := by
  obtain ⟨D, ⟨es, clock, hb, F, hs, hD⟩, h2⟩ := h
  exact ⟨D, ⟨es, clock, (hf.block b (World.ownsMap.lt ⟨es, clock, hb, F, hs, hD⟩) hx).trans hb, F, hs, hD⟩, h2⟩
theorem look (h : MapI w b n f) {x : Int} (hx : I64 x) : (Instr.lookup 80 (.map (some b)) (.int .i64 x) false).run Try.prog w = .ok (.int .i64 (f x)) w := by
  obtain ⟨D, h1, h2⟩ := h
  obtain ⟨c, hrun, hat, _⟩ := h1.lookup_int lawI Try.underlying80 Try.underlying3 (zeroI _) (keyI hx)
  rw [h2 x hx] at hat
  cases hat
  exact hrun
theorem put (h : MapI w b n f) (hn : n < maxLen) {x : Int} (hx : I64 x) : ∃ w', (Instr.mapUpdate 80 (.map (some b)) (.int .i64 x) (.int .i64 1)).run Try.prog w = .ok () w' ∧ MapI w' b (n + 1) (fun y => if y = x then 1 else f y) ∧ Frm (fun q => q = b) w w' := by
  obtain ⟨D, h1, h2⟩ := h
  obtain ⟨w', hrun, h3, h4⟩ := h1.update lawI Try.underlying80 hn (keyI hx) (plainElem_int Try.underlying3 (a := 1) (by decide))
  refine ⟨w', hrun, ⟨_, h3, fun y hy => ?_⟩, grown_frm h4⟩
  by_cases e : y = x
  · subst e
    simp only [if_true]
    exact atKey_put_same h1.isMap (lawI.key (keyI hy)) _ _
  · simp only [if_neg e]
    rw [atKey_put_other (by intro h; cases h; exact e rfl)]
    exact h2 y hy
end MapI
namespace MapT
variable {w w' : World} {b n : Nat} {f : Int → Int → Int}
theorem made (w : World) : MapT (w.alloc (.map #[] 0)) w.heap.size 0 (fun _ _ => 0) := ⟨.map [], World.ownsMap_made _ _ _ _, fun x y l _ => rfl⟩
theorem mono (h : MapT w b n f) {n' : Nat} (hn : n ≤ n') : MapT w b n' f := by obtain ⟨D, h1, h2⟩ := h; exact ⟨D, h1.mono hn, h2⟩
theorem lt (h : MapT w b n f) : b < w.heap.size := by obtain ⟨D, h1, h2⟩ := h; exact h1.lt
theorem frm {ex : Nat → Prop} (h : MapT w b n f) (hf : Frm ex w w') (hx : ¬ ex b) : MapT w' b n f := by
  obtain ⟨D, ⟨es, clock, hb, F, hs, hD⟩, h2⟩ := h
  exact ⟨D, ⟨es, clock, (hf.block b (World.ownsMap.lt ⟨es, clock, hb, F, hs, hD⟩) hx).trans hb, F, hs, hD⟩, h2⟩
theorem look (h : MapT w b n f) {x y : Int} (hx : I64 x) (hy : I64 y) : (Instr.lookup 81 (.map (some b)) (.agg #[.int .i64 x, .int .i64 y]) false).run Try.prog w = .ok (.int .i64 (f x y)) w := by
  obtain ⟨D, h1, h2⟩ := h
  obtain ⟨l, hl⟩ := keyT hx hy
  obtain ⟨c, hrun, hat, _⟩ := h1.lookup_int lawT Try.underlying81 Try.underlying3 (zeroI _) hl
  rw [h2 x y l hl] at hat
  cases hat
  exact hrun
theorem key_ne {x y x' y' : Int} {l l' : Lit} (h : keyOf Try.prog 85 (.agg #[.int .i64 x, .int .i64 y]) = some l) (h' : keyOf Try.prog 85 (.agg #[.int .i64 x', .int .i64 y']) = some l') (hne : ¬ (x' = x ∧ y' = y)) : l' ≠ l := by
  intro e
  subst e
  have := lawT.inj h h'
  cases this
  exact hne ⟨rfl, rfl⟩
theorem put (h : MapT w b n f) (hn : n < maxLen) {x y : Int} (hx : I64 x) (hy : I64 y) : ∃ w', (Instr.mapUpdate 81 (.map (some b)) (.agg #[.int .i64 x, .int .i64 y]) (.int .i64 1)).run Try.prog w = .ok () w' ∧ MapT w' b (n + 1) (fun x' y' => if x' = x ∧ y' = y then 1 else f x' y') ∧ Frm (fun q => q = b) w w' := by
  obtain ⟨D, h1, h2⟩ := h
  obtain ⟨l, hl⟩ := keyT hx hy
  obtain ⟨w', hrun, h3, h4⟩ := h1.update lawT Try.underlying81 hn hl (plainElem_int Try.underlying3 (a := 1) (by decide))
  refine ⟨w', hrun, ⟨_, h3, fun x' y' l' hl' => ?_⟩, grown_frm h4⟩
  by_cases e : x' = x ∧ y' = y
  · obtain ⟨rfl, rfl⟩ := e
    rw [hl] at hl'
    cases hl'
    simp only [and_self, if_true]
    exact atKey_put_same h1.isMap (lawT.key hl) _ _
  · simp only [if_neg e]
    rw [atKey_put_other (key_ne hl hl' e)]
    exact h2 x' y' l' hl'
theorem del (h : MapT w b n f) {x y : Int} (hx : I64 x) (hy : I64 y) (ty : TypeId) : ∃ w', (Builtin.delete_ #[81, 85] ty #[.map (some b), .agg #[.int .i64 x, .int .i64 y]]).run Try.prog w = .ok (.tuple #[]) w' ∧ MapT w' b n (fun x' y' => if x' = x ∧ y' = y then 0 else f x' y') ∧ Frm (fun q => q = b) w w' := by
  obtain ⟨D, h1, h2⟩ := h
  obtain ⟨l, hl⟩ := keyT hx hy
  obtain ⟨w', hrun, h3, h4⟩ := h1.drop lawT Try.underlying81 hl ty
  refine ⟨w', hrun, ⟨_, h3, fun x' y' l' hl' => ?_⟩, turned_frm h4⟩
  by_cases e : x' = x ∧ y' = y
  · obtain ⟨rfl, rfl⟩ := e
    rw [hl] at hl'
    cases hl'
    simp only [and_self, if_true]
    exact atKey_del_same _
  · simp only [if_neg e]
    rw [atKey_del_other (key_ne hl hl' e)]
    exact h2 x' y' l' hl'
end MapT
end Go.Proofs.Ytagfcndpblekkaa
