/- How marks (slices of Bools) and commands (slices of structs of four whole numbers) that came in are opened. -/
import Derived.Test.YtagfcndpblekkaaRow
import Derived.Test.YtagfcndpblekkaaRowT
import Derived.Test.YtagfcndpblekkaaJx
import Derived.Deep.Grids
import Derived.Lib.SmallJoins
namespace Go.Proofs.Ytagfcndpblekkaa
open Go.ChangeShapes Go.WideShapes Go.ChangeAt Go.RowKit
set_option linter.unusedVariables false
instance : Inhabited Cmd := ⟨⟨0, 0, 0, 0⟩⟩
theorem open_boolsJ {H : Type} {enc : TypeId × Value → H} {P : Program} {W : World} {base : Nat} {held : Bool} {t e : TypeId} {a : Option Addr} {len cap : Nat} {d : DataW H} {ps : List MemPlace} {ts : List TypeId} {ds : List (DataW H)} {j : Nat}
    (hsz : (DataW.weightsEach P ts ds).all (· ≤ reachBytes) = true) (ht : ts[j]? = some t) (hd : ds[j]? = some d) (hu : P.underlying t = some (.slice e)) (he : P.underlying e = some .bool) (hc : P.cellsOf e = 1) (hB : P.bytesOf e = 1)
    (h : DataW.Trod enc P W base (fun _ => true) held t (.slice a len cap) d ps) : ∃ l : List Bool, l.length = len ∧ Rd W a (bls l) ∧ len ≤ 140737488351232 := by
  obtain ⟨fuel, hf⟩ := h
  rcases Go.Deep.open_bools hu he hc hf with ⟨hcs, _⟩ | ⟨x, l, c, B, hcs, _, hl, _, hx, hcell⟩
  · simp [Value.cells] at hcs
    obtain ⟨rfl, rfl, rfl⟩ := hcs
    exact ⟨[], rfl, Rd.nil _ _, by omega⟩
  · simp [Value.cells] at hcs
    obtain ⟨rfl, rfl, rfl⟩ := hcs
    obtain ⟨hx, _⟩ := Prod.mk.inj hx
    have z := sized_slice hsz ht (hd.trans (congrArg some hx)) hu
    rw [hB] at z
    simp at z
    refine ⟨(List.range len).map B, by simp, fun _ => ⟨_, rfl, fun j u hu => ?_⟩, by unfold reachBytes at z; omega⟩
    have hj : j < len := by
      rcases Nat.lt_or_ge j len with h | h
      · exact h
      · rw [List.getElem?_eq_none (by rw [bls_len]; simp; omega)] at hu; cases hu
    rw [hcell j (by omega), ← hu]
    simp [bls, hj]
theorem open_cmds {H : Type} {enc : TypeId × Value → H} {P : Program} {W : World} {base : Nat} {held : Bool} {t e : TypeId} {a : Option Addr} {len cap : Nat} {d : DataW H} {ps : List MemPlace} {ts : List TypeId} {ds : List (DataW H)} {j : Nat} {f0 f1 f2 f3 : Field}
    (hsz : (DataW.weightsEach P ts ds).all (· ≤ reachBytes) = true) (ht : ts[j]? = some t) (hd : ds[j]? = some d) (hu : P.underlying t = some (.slice e)) (he : P.underlying e = some (.struct #[f0, f1, f2, f3])) (hc : P.cellsOf e = 4) (hB : P.bytesOf e = 32)
    (o0 : f0.offset = 0) (o1 : f1.offset = 1) (o2 : f2.offset = 2) (o3 : f3.offset = 3) (c0 : P.cellsOf f0.type = 1) (c1 : P.cellsOf f1.type = 1) (c2 : P.cellsOf f2.type = 1) (c3 : P.cellsOf f3.type = 1)
    (u0 : P.underlying f0.type = some (.int .i64)) (u1 : P.underlying f1.type = some (.int .i64)) (u2 : P.underlying f2.type = some (.int .i64)) (u3 : P.underlying f3.type = some (.int .i64))
    (h : DataW.Trod enc P W base (fun _ => true) held t (.slice a len cap) d ps) : ∃ l : List Cmd, l.length = len ∧ Rd W a (cmdV l) ∧ CmdsI l ∧ len ≤ 4398046510976 := by
  obtain ⟨fuel, hf⟩ := h
  rcases Go.Deep.open_slice hu hf with ⟨hcs, _⟩ | ⟨x, l, c, m, n, D, Pl, hcs, _, hl, _, hm, hx, hall⟩
  · simp [Value.cells] at hcs
    obtain ⟨rfl, rfl, rfl⟩ := hcs
    exact ⟨[], rfl, Rd.nil _ _, (fun k hk => by cases hk), by omega⟩
  · simp [Value.cells] at hcs
    obtain ⟨rfl, rfl, rfl⟩ := hcs
    simp only [if_true] at hm
    obtain ⟨hx, _⟩ := Prod.mk.inj hx
    have z := sized_slice hsz ht (hd.trans (congrArg some hx)) hu
    rw [hB] at z
    simp at z
    obtain ⟨f, hf⟩ := Go.Deep.choose_lt (α := Cmd) (n := len) (p := fun i c => CmdI c ∧ ∀ r u, (cmdC c)[r]? = some u → W.cell? (x.add (4 * i + r)) = some u) (fun i hi => by
      obtain ⟨cs', h1, h2⟩ := hall i (by omega)
      rw [hc] at h1
      obtain ⟨_, hlen, hcell⟩ := World.cells?_some h1
      obtain ⟨y0, y1, y2, y3, n2, _, _, g0, g1, g2, g3⟩ := Go.Joins.trod_struct4 he h2
      rw [o0, c0] at g0
      rw [o1, c1] at g1
      rw [o2, c2] at g2
      rw [o3, c3] at g3
      obtain ⟨z0, e0, _, w0⟩ := DataW.trod_int u0 g0
      obtain ⟨z1, e1, _, w1⟩ := DataW.trod_int u1 g1
      obtain ⟨z2, e2, _, w2⟩ := DataW.trod_int u2 g2
      obtain ⟨z3, e3, _, w3⟩ := DataW.trod_int u3 g3
      match cs', hlen with
      | [a0, a1, a2, a3], _ =>
        simp at e0 e1 e2 e3
        subst e0 e1 e2 e3
        refine ⟨⟨z0, z1, z2, z3⟩, ⟨wf_i64 w0, wf_i64 w1, wf_i64 w2, wf_i64 w3⟩, fun r u hr => ?_⟩
        have hr4 : r < 4 := by
          rcases Nat.lt_or_ge r 4 with h | h
          · exact h
          · rw [List.getElem?_eq_none (by simpa [cmdC] using h)] at hr; cases hr
        have := hcell r (by simpa using hr4)
        rw [Go.Deep.add_add, Nat.mul_comm] at this
        rw [this]
        have e4 : (cmdC ⟨z0, z1, z2, z3⟩)[r]? = [Value.int .i64 z0, .int .i64 z1, .int .i64 z2, .int .i64 z3][r]? := rfl
        rw [e4] at hr
        simpa using hr)
    have hlen : ((List.range len).map f).length = len := by simp
    have hget : ∀ k, k < len → ((List.range len).map f).getD k ⟨0, 0, 0, 0⟩ = f k := fun k hk => by
      rw [List.getD_eq_getElem?_getD]; simp [hk]
    refine ⟨(List.range len).map f, hlen, fun _ => ⟨_, rfl, fun j u hu => ?_⟩, fun k hk => ?_, by unfold reachBytes at z; omega⟩
    · have hj : j < 4 * len := by
        rcases Nat.lt_or_ge j (4 * len) with h | h
        · exact h
        · rw [List.getElem?_eq_none (by rw [cmdV_len, hlen]; exact h)] at hu; cases hu
      have e : j = 4 * (j / 4) + j % 4 := by omega
      rw [e, cmdV_at _ _ _ (by rw [hlen]; omega) (by omega), hget _ (by omega)] at hu
      rw [e]
      exact (hf (j / 4) (by omega)).2 _ _ hu
    · rw [hlen] at hk
      rw [hget k hk]
      exact (hf k hk).1
end Go.Proofs.Ytagfcndpblekkaa
