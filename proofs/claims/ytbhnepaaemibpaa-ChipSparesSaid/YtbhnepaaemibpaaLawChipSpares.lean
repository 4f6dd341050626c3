/- shalelaw04.ChipSpares answers true, whatever its arguments, and they read as before. No condition. The walks were printed by print.sh (PChipSparesx). -/
import Derived.Test.YtbhnepaaemibpaaRows
import Derived.Test.YtbhnepaaemibpaaPChipSparesx
import Derived.WalkKit
import Derived.ProofKit
import Derived.OpenShut
import Derived.ChangeOld
import Derived.Below
import Derived.SizedLaws
import Derived.ChangeSlices
import Derived.Deep.Strs
namespace Go.Proofs.Ytbhnepaaemibpaa.chipSpares
open Go.ChangeShapes Go.WideShapes Go.ChangeAt Go.RowKit
open Go.Proofs.Ytbhnepaaemibpaa.PChipSpares
set_option linter.unusedVariables false
theorem own : ownKnob Try.prog.godebug = none := by kernel_rfl
theorem laidOut : laidOutB Try.prog = true := by kernel_rfl
theorem cellsG : Try.prog.cellsOf 23 = 3 := by kernel_rfl
theorem cellsI : Try.prog.cellsOf 3 = 1 := by kernel_rfl
theorem three {P : Program} {W : World} {r : Reach} {base : Nat} {t : TypeId} {v : Value} {fs : Array Field} (h : Value.okWide P W r base t v) (hu : P.underlying t = some (.struct fs)) (hc : P.cellsOf t = 3) : ∃ c0 c1 c2, v = .agg #[c0, c1, c2] := by
  obtain ⟨cs, rfl, hsz⟩ := okWide_struct hu h
  rw [hc] at hsz
  obtain ⟨l⟩ := cs
  match l, hsz with
  | [c0, c1, c2], _ => exact ⟨c0, c1, c2, rfl⟩
theorem ints3 {H : Type} {enc : TypeId × Value → H} {P : Program} {W : World} {base : Nat} {spare : Nat → Bool} {held : Bool} {t i : TypeId} {f0 f1 f2 : Field} {c0 c1 c2 : Value} {d : DataW H} {ps : List MemPlace}
    (ht : P.underlying t = some (.struct #[f0, f1, f2])) (t0 : f0.type = i) (t1 : f1.type = i) (t2 : f2.type = i) (o0 : f0.offset = 0) (o1 : f1.offset = 1) (o2 : f2.offset = 2) (hi : P.underlying i = some (.int .i64)) (hc : P.cellsOf i = 1)
    (h : DataW.Trod enc P W base spare held t (.agg #[c0, c1, c2]) d ps) : ∃ a b c, c0 = .int .i64 a ∧ c1 = .int .i64 b ∧ c2 = .int .i64 c := by
  obtain ⟨fuel, hf⟩ := h
  obtain ⟨y0, y1, y2, m, hx, _, hy0, hy1, hy2⟩ := Go.Deep.trod_struct3 ht hf
  rw [t0, o0] at hy0
  rw [t1, o1] at hy1
  rw [t2, o2] at hy2
  obtain ⟨a, e0, _, wa⟩ := DataW.trod_int hi hy0
  obtain ⟨b, e1, _, wb⟩ := DataW.trod_int hi hy1
  obtain ⟨c, e2, _, wc⟩ := DataW.trod_int hi hy2
  simp [Value.cells, hc] at e0 e1 e2
  exact ⟨a, b, c, e0, e1, e2⟩
theorem shapes (a b c : Int) : ∃ r, chip_shape.f a b c = some r ∧ shaleref04_Shape.f a b c = some r := by
  unfold chip_shape.f shaleref04_Shape.f
  by_cases h1 : a ≥ 8
  · rw [if_pos h1, if_neg (show ¬ a < 8 by omega)]
    by_cases h2 : a ≤ 4096
    · rw [if_pos h2, if_neg (show ¬ a > 4096 by omega)]
      by_cases h3 : b ≥ 4
      · rw [if_pos h3, if_neg (show ¬ b < 4 by omega)]
        by_cases h4 : b ≤ 256
        · rw [if_pos h4, if_neg (show ¬ b > 256 by omega)]
          by_cases h5 : c ≥ 1
          · rw [if_pos h5, if_neg (show ¬ c < 1 by omega)]
            by_cases h6 : c ≤ 8
            · rw [if_pos h6, if_neg (show ¬ c > 8 by omega)]
              exact ⟨_, rfl, rfl⟩
            · rw [if_neg h6, if_pos (show c > 8 by omega)]; exact ⟨_, rfl, rfl⟩
          · rw [if_neg h5, if_pos (show c < 1 by omega)]; exact ⟨_, rfl, rfl⟩
        · rw [if_neg h4, if_pos (show b > 256 by omega)]; exact ⟨_, rfl, rfl⟩
      · rw [if_neg h3, if_pos (show b < 4 by omega)]; exact ⟨_, rfl, rfl⟩
    · rw [if_neg h2, if_pos (show a > 4096 by omega)]; exact ⟨_, rfl, rfl⟩
  · rw [if_neg h1, if_pos (show a < 8 by omega)]; exact ⟨_, rfl, rfl⟩
theorem true_ (a b c : Int) : shalelaw04_ChipSpares.f a b c = some true := by
  obtain ⟨r, h1, h2⟩ := shapes a b c
  unfold shalelaw04_ChipSpares.f chip_Spare.f shaleref04_Spare.f shaleref04_spare.f shalelaw04_no.f
  rw [h1, h2]
  cases r <;> simp
set_option maxRecDepth 100000 in
set_option maxHeartbeats 400000 in
theorem lifted (os : Os) (started : os.Started) (H : Type) (enc : TypeId × Value → H) :
    ReturnsInHanded {} Try.checked os 3 .any (Rows.chipSparesSpec.pre6 enc Try.prog Try.f3 Rows.chipSparesRow.domain false) (Rows.chipSparesSpec.post enc Try.prog Try.f3 false true false false) := by
  refine returnsInHanded_of_change_sized (C := Try.checked) own started (by kernel_rfl) Try.func3
    (ChangeSpec.witness6 (enc := enc) (C := Try.checked) false ⟨#[], #[.agg #[.int .i64 0, .int .i64 0, .int .i64 0]], []⟩ 8 (by kernel_rfl) (by kernel_rfl) (by kernel_rfl) (by kernel_rfl)) ?_
  intro W base args ds gs before hval0 hW hcnd hsz0 _
  have hval : ∀ (j : Nat) t v, Try.f3.params[j]? = some t → args[j]? = some v → Value.okWide Try.prog W .any base t v := hval0
  have hW' := hW
  obtain ⟨p, q, hA0, hV, rfl, hfz, hnd⟩ := hW
  have hA : DataW.TrodAll enc Try.prog W 0 (fun _ => true) true Try.f3.params.toList args.toList ds p := hA0
  rw [Try.params3] at hA hval
  obtain ⟨v0, vs0, d0, ds0, p0, q0, hargs, rfl, rfl, h0, r0⟩ := trodAll_cons hA
  obtain ⟨rfl, rfl, rfl⟩ := trodAll_nil r0
  obtain rfl : args = #[v0] := by cases args; simp_all
  obtain ⟨rfl, rfl⟩ := trodVars_none hV
  have k0 := h0
  have lt0 : ∀ x ∈ p0, x.block < W.heap.size := by obtain ⟨m, hm⟩ := k0; exact DataW.trod_lt m _ _ _ hm
  obtain ⟨c0, c1, c2, rfl⟩ := three (hval 0 23 v0 rfl rfl) Try.underlying23 cellsG
  obtain ⟨a, b, c, e0, e1, e2⟩ := ints3 Try.underlying23 rfl rfl rfl rfl rfl rfl Try.underlying3 cellsI h0
  subst e0 e1 e2
  clear hA0 hval0 hsz0 h0
  refine (shalelaw04_ChipSpares.calls a b c true W (true_ a b c)).mono fun e W' ⟨he, bel⟩ => ?_
  subst he
  exact ⟨_, rfl, _, _, _, [], _, [], hW', trodAll_mk1 (shut_bool Try.underlying4 _), (trodAll_cons_mk (Below.trod laidOut (by kernel_rfl) (of_decide_eq_true (by kernel_rfl)) k0 bel lt0) trodAll_mk0), rfl, bel.frame _, fun h => by cases h⟩
theorem over : Rows.chipSparesRow.holds Try.pinned (OpenSpec.ofChange Rows.chipSparesSpec) :=
  OpenClaim.holds_of_wide 3 Try.f3 rfl rfl rfl rfl rfl rfl rfl ⟨rfl, rfl, rfl, rfl, rfl⟩ rfl rfl rfl rfl rfl (by kernel_rfl) Try.func3 (by kernel_rfl)
    (of_decide_eq_true (by kernel_rfl)) (by unfold Func.isWrapper; first | (rw [if_pos (by decide +kernel)]; kernel_rfl) | (rw [if_neg (by decide +kernel)]; exact ⟨rfl, rfl⟩))
    (fun os started H enc _ => lifted os started H enc)
end Go.Proofs.Ytbhnepaaemibpaa.chipSpares
namespace Go.Proofs.Ytbhnepaaemibpaa
theorem chipSpares_holds : Rows.ChipSparesSaid := chipSpares.over
#print axioms chipSpares_holds
end Go.Proofs.Ytbhnepaaemibpaa
