/- shalelaw20.ImagePages answers true, whatever its arguments, and they read as before. No condition. Nine of the walks were printed by print.sh for ImageChecks (PImageChecksx0 to x2). -/
import Derived.Test.YtloamkbkcdhaiaaIr
import Derived.Test.YtloamkbkcdhaiaaRowT
import Derived.Test.YtloamkbkcdhaiaaIt
namespace Go.Proofs.Ytloamkbkcdhaiaa.imagePages
open Go.ChangeShapes Go.WideShapes Go.ChangeAt Go.RowKit
set_option linter.unusedVariables false
theorem own : ownKnob Try.prog.godebug = none := by kernel_rfl
theorem cellsP : Try.prog.cellsOf 38 = 2 := by kernel_rfl
theorem two {P : Program} {W : World} {r : Reach} {base : Nat} {t : TypeId} {v : Value} {fs : Array Field} (h : Value.okWide P W r base t v) (hu : P.underlying t = some (.struct fs)) (hc : P.cellsOf t = 2) : ∃ c0 c1, v = .agg #[c0, c1] := by
  obtain ⟨cs, rfl, hsz⟩ := okWide_struct hu h
  rw [hc] at hsz
  obtain ⟨l⟩ := cs
  match l, hsz with
  | [c0, c1], _ => exact ⟨c0, c1, rfl⟩
theorem laidOut : laidOutB Try.prog = true := by kernel_rfl
set_option maxRecDepth 100000 in
set_option maxHeartbeats 400000 in
theorem lifted (os : Os) (started : os.Started) (H : Type) (enc : TypeId × Value → H) :
    ReturnsInHanded {} Try.checked os 4 .any (Rows.imagePagesSpec.pre6 enc Try.prog Try.f4 Rows.imagePagesRow.domain false) (Rows.imagePagesSpec.post enc Try.prog Try.f4 false true false false) := by
  refine returnsInHanded_of_change_sized (C := Try.checked) own started (by kernel_rfl) Try.func4
    (ChangeSpec.witness6 (enc := enc) (C := Try.checked) false ⟨#[], #[.agg #[.int .i64 0, .int .i64 0, .int .i64 0, .slice none 0 0, .slice none 0 0], .agg #[.int .i64 0, .int .i64 0]], []⟩ 8 (by kernel_rfl) (by kernel_rfl) (by kernel_rfl) (by kernel_rfl)) ?_
  intro W base args ds gs before hval0 hW hcnd hsz0 _
  have hsz : (DataW.weightsEach Try.prog (Try.f4.params.toList ++ Rows.imagePagesSpec.plain.varTypes Try.prog) (ds ++ gs)).all (· ≤ reachBytes) = true := hsz0
  have hval : ∀ (j : Nat) t v, Try.f4.params[j]? = some t → args[j]? = some v → Value.okWide Try.prog W .any base t v := hval0
  have hW' := hW
  obtain ⟨p, q, hA0, hV, rfl, hfz, hnd⟩ := hW
  have hA : DataW.TrodAll enc Try.prog W 0 (fun _ => true) true Try.f4.params.toList args.toList ds p := hA0
  rw [Try.params4] at hA hval hsz
  obtain ⟨v0, vs0, d0, ds0, p0, q0, hargs, rfl, rfl, h0, r0⟩ := trodAll_cons hA
  obtain ⟨v1, vs1, d1, ds1, p1, q1, rfl, rfl, rfl, h1, r1⟩ := trodAll_cons r0
  obtain ⟨rfl, rfl, rfl⟩ := trodAll_nil r1
  obtain rfl : args = #[v0, v1] := by cases args; simp_all
  obtain ⟨rfl, rfl⟩ := trodVars_none hV
  have k0 := h0
  have k1 := h1
  have lt1 : ∀ x ∈ p1, x.block < W.heap.size := by obtain ⟨m, hm⟩ := k1; exact DataW.trod_lt m _ _ _ hm
  have lt0 : ∀ x ∈ p0, x.block < W.heap.size := by obtain ⟨m, hm⟩ := k0; exact DataW.trod_lt m _ _ _ hm
  obtain ⟨c0, c1, c2, c3, c4, rfl⟩ := five (hval 0 27 v0 rfl rfl) Try.underlying27 cellsM
  obtain ⟨e0, e1, rfl⟩ := two (hval 1 38 v1 rfl rfl) Try.underlying38 cellsP
  obtain ⟨x0, y0, _⟩ := field_intw 0 Try.underlying38 h1 rfl rfl Try.underlying3 cellsI
  obtain ⟨x1, y1, _⟩ := field_intw 1 Try.underlying38 h1 rfl rfl Try.underlying3 cellsI
  obtain rfl := Option.some.inj y0
  obtain rfl := Option.some.inj y1
  have hwt : (d0.weights Try.prog 27).all (· ≤ reachBytes) = true := by
    refine List.all_eq_true.mpr fun n hn => ?_
    exact List.all_eq_true.1 hsz n (DataW.weights_mem_each (j := 0) rfl rfl n hn)
  obtain ⟨b, pp, s, A, n, c, A2, n2, c2', l, lb, rfl, rfl, rfl, rfl, rfl, hl, hlb, hr, hrb, hm, hm2, hc, hc2⟩ := open_image rfl h0 hwt
  clear hA0 hval0 hsz0 h0 h1 hsz hwt y0 y1
  refine (pages_walk b pp s A n c A2 n2 c2' l lb x0 x1 W hl hlb hr hrb hm hm2 hc hc2).mono fun e W' ⟨he, bel⟩ => ?_
  subst he
  exact ⟨_, rfl, _, _, _, [], _, [], hW', trodAll_mk1 (shut_bool Try.underlying4 _), (trodAll_cons_mk (Below.trod laidOut (by kernel_rfl) (of_decide_eq_true (by kernel_rfl)) k0 bel lt0) (trodAll_cons_mk (Below.trod laidOut (by kernel_rfl) (of_decide_eq_true (by kernel_rfl)) k1 bel lt1) trodAll_mk0)), rfl, bel.frame _, fun h => by cases h⟩
theorem over : Rows.imagePagesRow.holds Try.pinned (OpenSpec.ofChange Rows.imagePagesSpec) :=
  OpenClaim.holds_of_wide 4 Try.f4 rfl rfl rfl rfl rfl rfl rfl ⟨rfl, rfl, rfl, rfl, rfl⟩ rfl rfl rfl rfl rfl (by kernel_rfl) Try.func4 (by kernel_rfl)
    (of_decide_eq_true (by kernel_rfl)) (by unfold Func.isWrapper; first | (rw [if_pos (by decide +kernel)]; kernel_rfl) | (rw [if_neg (by decide +kernel)]; exact ⟨rfl, rfl⟩))
    (fun os started H enc _ => lifted os started H enc)
end Go.Proofs.Ytloamkbkcdhaiaa.imagePages
namespace Go.Proofs.Ytloamkbkcdhaiaa
theorem imagePages_holds : Rows.ImagePagesSaid := imagePages.over
#print axioms imagePages_holds
end Go.Proofs.Ytloamkbkcdhaiaa
