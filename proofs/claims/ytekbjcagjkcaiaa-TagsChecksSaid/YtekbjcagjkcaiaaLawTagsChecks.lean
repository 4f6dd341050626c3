/- shalelaw06.TagsChecks answers true, whatever its arguments, and they read as before. No condition. Six of the walks were printed by print.sh (PTagsChecksx). -/
import Derived.Test.YtekbjcagjkcaiaaRows
import Derived.Test.YtekbjcagjkcaiaaTl
import Derived.WalkKit
import Derived.ProofKit
import Derived.OpenShut
import Derived.ChangeOld
import Derived.Below
import Derived.SizedLaws
import Derived.ChangeSlices
namespace Go.Proofs.Ytekbjcagjkcaiaa.tagsChecks
open Go.ChangeShapes Go.WideShapes Go.ChangeAt Go.RowKit
set_option linter.unusedVariables false
theorem own : ownKnob Try.prog.godebug = none := by kernel_rfl
theorem laidOut : laidOutB Try.prog = true := by kernel_rfl
theorem cellsG : Try.prog.cellsOf 23 = 3 := by kernel_rfl
theorem cellsT : Try.prog.cellsOf 26 = 8 := by kernel_rfl
theorem cellsI : Try.prog.cellsOf 3 = 1 := by kernel_rfl
theorem cellsU : Try.prog.cellsOf 24 = 1 := by kernel_rfl
theorem three {P : Program} {W : World} {r : Reach} {base : Nat} {t : TypeId} {v : Value} {fs : Array Field} (h : Value.okWide P W r base t v) (hu : P.underlying t = some (.struct fs)) (hc : P.cellsOf t = 3) : ∃ c0 c1 c2, v = .agg #[c0, c1, c2] := by
  obtain ⟨cs, rfl, hsz⟩ := okWide_struct hu h
  rw [hc] at hsz
  obtain ⟨l⟩ := cs
  match l, hsz with
  | [c0, c1, c2], _ => exact ⟨c0, c1, c2, rfl⟩
theorem eight {P : Program} {W : World} {r : Reach} {base : Nat} {t : TypeId} {v : Value} {fs : Array Field} (h : Value.okWide P W r base t v) (hu : P.underlying t = some (.struct fs)) (hc : P.cellsOf t = 8) : ∃ c0 c1 c2 c3 c4 c5 c6 c7, v = .agg #[c0, c1, c2, c3, c4, c5, c6, c7] := by
  obtain ⟨cs, rfl, hsz⟩ := okWide_struct hu h
  rw [hc] at hsz
  obtain ⟨l⟩ := cs
  match l, hsz with
  | [c0, c1, c2, c3, c4, c5, c6, c7], _ => exact ⟨c0, c1, c2, c3, c4, c5, c6, c7, rfl⟩
/-- The field number i of a struct by value is a whole number. -/
theorem field_int {H : Type} {enc : TypeId × Value → H} {P : Program} {W : World} {base : Nat} {spare : Nat → Bool} {held : Bool} {t : TypeId} {fs : Array Field} {cs : Array Value} {d : DataW H} {ps : List MemPlace} (i : Nat) {f : Field} {k : IntKind}
    (ht : P.underlying t = some (.struct fs)) (h : DataW.Trod enc P W base spare held t (.agg cs) d ps) (hf : fs[i]? = some f) (ho : f.offset = i) (hk : P.underlying f.type = some (.int k)) (hc : P.cellsOf f.type = 1) : ∃ x, cs[i]? = some (.int k x) := by
  obtain ⟨fuel, hh⟩ := h
  obtain ⟨xs, n, _, _, hl, hlen, hall⟩ := DataW.trod_struct ht hh
  have hi : i < xs.length := by
    rw [hlen]
    rcases Nat.lt_or_ge i fs.size with h1 | h1
    · exact h1
    · rw [Array.getElem?_eq_none h1] at hf; cases hf
  have h1 := hall i f hf
  rw [List.getElem?_eq_getElem hi] at h1
  obtain ⟨x, hx, _⟩ := DataW.trod_int hk h1
  rw [ho, hc] at hx
  refine ⟨x, ?_⟩
  have h2 : ((Value.agg cs).cells.toList.drop i).take 1 = [.int k x] := hx
  have h3 := congrArg (fun l => l[0]?) h2
  simpa [Value.cells, List.getElem?_take, List.getElem?_drop] using h3
set_option maxRecDepth 100000 in
set_option maxHeartbeats 400000 in
theorem lifted (os : Os) (started : os.Started) (H : Type) (enc : TypeId × Value → H) :
    ReturnsInHanded {} Try.checked os 3 .any (Rows.tagsChecksSpec.pre6 enc Try.prog Try.f3 Rows.tagsChecksRow.domain false) (Rows.tagsChecksSpec.post enc Try.prog Try.f3 false true false false) := by
  refine returnsInHanded_of_change_sized (C := Try.checked) own started (by kernel_rfl) Try.func3
    (ChangeSpec.witness6 (enc := enc) (C := Try.checked) false ⟨#[], #[.agg #[.int .i64 0, .int .i64 0, .int .i64 0], .agg #[.int .i64 0, .int .i64 0, .int .u64 0, .int .u64 0, .int .i64 0, .int .i64 0, .int .i64 0, .int .i64 0]], []⟩ 8 (by kernel_rfl) (by kernel_rfl) (by kernel_rfl) (by kernel_rfl)) ?_
  intro W base args ds gs before hval0 hW hcnd hsz0 _
  have hval : ∀ (j : Nat) t v, Try.f3.params[j]? = some t → args[j]? = some v → Value.okWide Try.prog W .any base t v := hval0
  have hW' := hW
  obtain ⟨p, q, hA0, hV, rfl, hfz, hnd⟩ := hW
  have hA : DataW.TrodAll enc Try.prog W 0 (fun _ => true) true Try.f3.params.toList args.toList ds p := hA0
  rw [Try.params3] at hA hval
  obtain ⟨v0, vs0, d0, ds0, p0, q0, hargs, rfl, rfl, h0, r0⟩ := trodAll_cons hA
  obtain ⟨v1, vs1, d1, ds1, p1, q1, rfl, rfl, rfl, h1, r1⟩ := trodAll_cons r0
  obtain ⟨rfl, rfl, rfl⟩ := trodAll_nil r1
  obtain rfl : args = #[v0, v1] := by cases args; simp_all
  obtain ⟨rfl, rfl⟩ := trodVars_none hV
  have k0 := h0
  have k1 := h1
  have lt0 : ∀ x ∈ p0, x.block < W.heap.size := by obtain ⟨m, hm⟩ := k0; exact DataW.trod_lt m _ _ _ hm
  have lt1 : ∀ x ∈ p1, x.block < W.heap.size := by obtain ⟨m, hm⟩ := k1; exact DataW.trod_lt m _ _ _ hm
  obtain ⟨c0, c1, c2, rfl⟩ := three (hval 0 23 v0 rfl rfl) Try.underlying23 cellsG
  obtain ⟨e0, e1, e2, e3, e4, e5, e6, e7, rfl⟩ := eight (hval 1 26 v1 rfl rfl) Try.underlying26 cellsT
  obtain ⟨b, hb⟩ := field_int 0 Try.underlying23 h0 rfl rfl Try.underlying3 cellsI
  obtain ⟨pp, hp⟩ := field_int 1 Try.underlying23 h0 rfl rfl Try.underlying3 cellsI
  obtain ⟨s, hs⟩ := field_int 2 Try.underlying23 h0 rfl rfl Try.underlying3 cellsI
  obtain ⟨x0, y0⟩ := field_int 0 Try.underlying26 h1 rfl rfl Try.underlying3 cellsI
  obtain ⟨x1, y1⟩ := field_int 1 Try.underlying26 h1 rfl rfl Try.underlying3 cellsI
  obtain ⟨x2, y2⟩ := field_int 2 Try.underlying26 h1 rfl rfl Try.underlying24 cellsU
  obtain ⟨x3, y3⟩ := field_int 3 Try.underlying26 h1 rfl rfl Try.underlying24 cellsU
  obtain ⟨x4, y4⟩ := field_int 4 Try.underlying26 h1 rfl rfl Try.underlying3 cellsI
  obtain ⟨x5, y5⟩ := field_int 5 Try.underlying26 h1 rfl rfl Try.underlying3 cellsI
  obtain ⟨x6, y6⟩ := field_int 6 Try.underlying26 h1 rfl rfl Try.underlying3 cellsI
  obtain ⟨x7, y7⟩ := field_int 7 Try.underlying26 h1 rfl rfl Try.underlying3 cellsI
  obtain rfl := Option.some.inj hb
  obtain rfl := Option.some.inj hp
  obtain rfl := Option.some.inj hs
  obtain rfl := Option.some.inj y0
  obtain rfl := Option.some.inj y1
  obtain rfl := Option.some.inj y2
  obtain rfl := Option.some.inj y3
  obtain rfl := Option.some.inj y4
  obtain rfl := Option.some.inj y5
  obtain rfl := Option.some.inj y6
  obtain rfl := Option.some.inj y7
  clear hA0 hval0 hsz0 h0 h1 hb hp hs y0 y1 y2 y3 y4 y5 y6 y7
  refine (checks_walk b pp s x0 x1 x2 x3 x4 x5 x6 x7 W).mono fun e W' ⟨he, bel⟩ => ?_
  subst he
  exact ⟨_, rfl, _, _, _, [], _, [], hW', trodAll_mk1 (shut_bool Try.underlying4 _), (trodAll_cons_mk (Below.trod laidOut (by kernel_rfl) (of_decide_eq_true (by kernel_rfl)) k0 bel lt0) (trodAll_cons_mk (Below.trod laidOut (by kernel_rfl) (of_decide_eq_true (by kernel_rfl)) k1 bel lt1) trodAll_mk0)), rfl, bel.frame _, fun h => by cases h⟩
theorem over : Rows.tagsChecksRow.holds Try.pinned (OpenSpec.ofChange Rows.tagsChecksSpec) :=
  OpenClaim.holds_of_wide 3 Try.f3 rfl rfl rfl rfl rfl rfl rfl ⟨rfl, rfl, rfl, rfl, rfl⟩ rfl rfl rfl rfl rfl (by kernel_rfl) Try.func3 (by kernel_rfl)
    (of_decide_eq_true (by kernel_rfl)) (by unfold Func.isWrapper; first | (rw [if_pos (by decide +kernel)]; kernel_rfl) | (rw [if_neg (by decide +kernel)]; exact ⟨rfl, rfl⟩))
    (fun os started H enc _ => lifted os started H enc)
end Go.Proofs.Ytekbjcagjkcaiaa.tagsChecks
namespace Go.Proofs.Ytekbjcagjkcaiaa
theorem tagsChecks_holds : Rows.TagsChecksSaid := tagsChecks.over
#print axioms tagsChecks_holds
end Go.Proofs.Ytekbjcagjkcaiaa
