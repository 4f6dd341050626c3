/- shalelaw06.TagsOwn answers true, whatever its arguments, and they read as before. No condition. -/
import Derived.Test.YtekbjcagjkcaiaaDoorCards
import Derived.Test.YtekbjcagjkcaiaaDoorTie
import Derived.Test.YtekbjcagjkcaiaaDoorRow
import Derived.Deep.DeepHandedRow
import Derived.Lib.LaidTab
import Derived.Test.YtekbjcagjkcaiaaDoorRowT
import Derived.Test.YtekbjcagjkcaiaaDoorRowL
import Derived.Stop.LaidErr
import Derived.Test.YtekbjcagjkcaiaaDoorTob
namespace Go.Proofs.YtekbjcagjkcaiaaDoor.tagsOwn
open Go.ChangeShapes Go.WideShapes Go.ChangeAt Go.RowKit
open Go.ChangeMaps (open_string shut_string)
set_option linter.unusedVariables false
theorem own : ownKnob Tryd.prog.godebug = none := by kernel_rfl
theorem laidOut : laidOutB Tryd.prog = true := by kernel_rfl
theorem gTab : Tryd.prog.globalNamed "shale/tags.layout" = some 0 := by kernel_rfl
theorem gTabType : (Tryd.prog.globals[0]?).map (·.type) = some 60 := by kernel_rfl
theorem tableL {W : World} (h : laidMetH Tryd.prog Rows.tagsOwnRow.laid W) : LayT W := by
  have ht := pairs_of_head (k := .i64) (zs := [(0, 1), (1, 1), (2, 6), (8, 6), (14, 4), (18, 4), (22, 2), (24, 2)]) (rest := []) gTab gTabType Tryd.underlying60 Tryd.underlying59 (by kernel_rfl) (by kernel_rfl) rfl rfl (by kernel_rfl) (by kernel_rfl) (by kernel_rfl) (laidMet.tail (x := ("shale/rail.spread", Rows.laid_shale_rail_spread)) (r := [("shale/tags.layout", pairData .i64 [(0, 1), (1, 1), (2, 6), (8, 6), (14, 4), (18, 4), (22, 2), (24, 2)])]) h)
  intro i hi
  obtain ⟨j, hj⟩ : ∃ j, j = i / 2 := ⟨_, rfl⟩
  have key := ht j _ (List.getElem?_eq_getElem (by simp; omega))
  rcases Nat.mod_two_eq_zero_or_one i with h2 | h2
  · obtain rfl : i = 2 * j := by omega
    rw [key.1]
    have : ∀ j : Fin 8, ([(0, 1), (1, 1), (2, 6), (8, 6), (14, 4), (18, 4), (22, 2), (24, 2)] : List (Int × Int))[j.val].1 = layC (2 * j.val) := by decide +kernel
    exact congrArg (fun x => some (Value.int .i64 x)) (this ⟨j, by omega⟩)
  · obtain rfl : i = 2 * j + 1 := by omega
    rw [key.2]
    have : ∀ j : Fin 8, ([(0, 1), (1, 1), (2, 6), (8, 6), (14, 4), (18, 4), (22, 2), (24, 2)] : List (Int × Int))[j.val].2 = layC (2 * j.val + 1) := by decide +kernel
    exact congrArg (fun x => some (Value.int .i64 x)) (this ⟨j, by omega⟩)
theorem gTab1 : Tryd.prog.globalNamed "shale/rail.spread" = some 1 := by kernel_rfl
theorem gTabType1 : (Tryd.prog.globals[1]?).map (·.type) = some 94 := by kernel_rfl
theorem cellsT1 : Tryd.prog.cellsOf 94 = 16 := by kernel_rfl
theorem cellsE1 : Tryd.prog.cellsOf 5 = 1 := by kernel_rfl
theorem tableS {W : World} (h : laidMetH Tryd.prog Rows.tagsOwnRow.laid W) : SpT W := by
  have ht : Lib.TabIs Tryd.prog W "shale/rail.spread" .u8 [170, 169, 166, 165, 154, 153, 150, 149, 106, 105, 102, 101, 90, 89, 86, 85] := Lib.tabIs_of_head (rest := [("shale/tags.layout", Rows.laid_shale_tags_layout)]) gTab1 gTabType1 Tryd.underlying94 Tryd.underlying5 cellsE1 cellsT1 h
  intro i hi
  have key := ht.cell gTab1 i (by simpa using hi)
  rw [key]
  have : ∀ i : Fin 16, ([170, 169, 166, 165, 154, 153, 150, 149, 106, 105, 102, 101, 90, 89, 86, 85] : List Int).getD i.val 0 = ((sprT i.val : Nat) : Int) := by decide +kernel
  exact congrArg (fun x => some (Value.int .u8 x)) (this ⟨i, hi⟩)
theorem table {W : World} (h : laidMetH Tryd.prog Rows.tagsOwnRow.laid W) : LayT W ∧ SpT W := ⟨tableL h, tableS h⟩
theorem contract (H : Type) (enc : TypeId × Value → H) (W : World) (base : Nat) (args : Array Value) (ds gs : List (DataW H)) (before : List MemPlace)
    (hval0 : ∀ (j : Nat) t v, Tryd.f9.params[j]? = some t → args[j]? = some v → Value.okWide Tryd.prog W .any base t v)
    (hW : DataW.Whole enc Tryd.prog Tryd.f9.params.toList Rows.tagsOwnSpec.vars false W args.toList ds gs before)
    (hsz0 : (DataW.weightsEach Tryd.prog (Tryd.f9.params.toList ++ Rows.tagsOwnSpec.plain.varTypes Tryd.prog) (ds ++ gs)).all (· ≤ reachBytes) = true) (hL : laidMetH Tryd.prog Rows.tagsOwnRow.laid W) :
    Calls Tryd.prog 9 args W fun e W' => ∃ v, e = .returned v ∧ Rows.tagsOwnSpec.post enc Tryd.prog Tryd.f9 false true false false W args v W' := by
  have hT := table hL
  have hsz : (DataW.weightsEach Tryd.prog (Tryd.f9.params.toList ++ Rows.tagsOwnSpec.plain.varTypes Tryd.prog) (ds ++ gs)).all (· ≤ reachBytes) = true := hsz0
  have hval : ∀ (j : Nat) t v, Tryd.f9.params[j]? = some t → args[j]? = some v → Value.okWide Tryd.prog W .any base t v := hval0
  have hW' := hW
  obtain ⟨p, q, hA0, hV, rfl, hfz, hnd⟩ := hW
  have hA : DataW.TrodAll enc Tryd.prog W 0 (fun _ => true) true Tryd.f9.params.toList args.toList ds p := hA0
  rw [Tryd.params9] at hA hval hsz
  obtain ⟨v0, vs0, d0, ds0, p0, q0, hargs, rfl, rfl, h0, r0⟩ := trodAll_cons hA
  obtain ⟨v1, vs1, d1, ds1, p1, q1, rfl, rfl, rfl, h1, r1⟩ := trodAll_cons r0
  obtain ⟨rfl, rfl, rfl⟩ := trodAll_nil r1
  obtain rfl : args = #[v0, v1] := by cases args; simp_all
  obtain ⟨rfl, rfl⟩ := trodVars_none hV
  have k0 := h0
  have lt0 : ∀ x ∈ p0, x.block < W.heap.size := by obtain ⟨m, hm⟩ := k0; exact DataW.trod_lt m _ _ _ hm
  obtain ⟨e0_0, e0_1, e0_2, e0_3, e0_4, e0_5, e0_6, e0_7, rfl⟩ := eight (hval 0 25 v0 rfl rfl) Tryd.underlying25 (by kernel_rfl)
  obtain ⟨x0_0, y0_0, w0_0⟩ := field_intw 0 Tryd.underlying25 h0 rfl rfl Tryd.underlying3 (by kernel_rfl)
  obtain ⟨x0_1, y0_1, w0_1⟩ := field_intw 1 Tryd.underlying25 h0 rfl rfl Tryd.underlying3 (by kernel_rfl)
  obtain ⟨x0_2, y0_2, w0_2⟩ := field_intw 2 Tryd.underlying25 h0 rfl rfl Tryd.underlying23 (by kernel_rfl)
  obtain ⟨x0_3, y0_3, w0_3⟩ := field_intw 3 Tryd.underlying25 h0 rfl rfl Tryd.underlying23 (by kernel_rfl)
  obtain ⟨x0_4, y0_4, w0_4⟩ := field_intw 4 Tryd.underlying25 h0 rfl rfl Tryd.underlying3 (by kernel_rfl)
  obtain ⟨x0_5, y0_5, w0_5⟩ := field_intw 5 Tryd.underlying25 h0 rfl rfl Tryd.underlying3 (by kernel_rfl)
  obtain ⟨x0_6, y0_6, w0_6⟩ := field_intw 6 Tryd.underlying25 h0 rfl rfl Tryd.underlying3 (by kernel_rfl)
  obtain ⟨x0_7, y0_7, w0_7⟩ := field_intw 7 Tryd.underlying25 h0 rfl rfl Tryd.underlying3 (by kernel_rfl)
  obtain rfl := Option.some.inj y0_0
  obtain rfl := Option.some.inj y0_1
  obtain rfl := Option.some.inj y0_2
  obtain rfl := Option.some.inj y0_3
  obtain rfl := Option.some.inj y0_4
  obtain rfl := Option.some.inj y0_5
  obtain rfl := Option.some.inj y0_6
  obtain rfl := Option.some.inj y0_7
  have k1 := h1
  have lt1 : ∀ x ∈ p1, x.block < W.heap.size := by obtain ⟨m, hm⟩ := k1; exact DataW.trod_lt m _ _ _ hm
  obtain ⟨e1_0, e1_1, e1_2, e1_3, e1_4, e1_5, e1_6, e1_7, rfl⟩ := eight (hval 1 25 v1 rfl rfl) Tryd.underlying25 (by kernel_rfl)
  obtain ⟨x1_0, y1_0, w1_0⟩ := field_intw 0 Tryd.underlying25 h1 rfl rfl Tryd.underlying3 (by kernel_rfl)
  obtain ⟨x1_1, y1_1, w1_1⟩ := field_intw 1 Tryd.underlying25 h1 rfl rfl Tryd.underlying3 (by kernel_rfl)
  obtain ⟨x1_2, y1_2, w1_2⟩ := field_intw 2 Tryd.underlying25 h1 rfl rfl Tryd.underlying23 (by kernel_rfl)
  obtain ⟨x1_3, y1_3, w1_3⟩ := field_intw 3 Tryd.underlying25 h1 rfl rfl Tryd.underlying23 (by kernel_rfl)
  obtain ⟨x1_4, y1_4, w1_4⟩ := field_intw 4 Tryd.underlying25 h1 rfl rfl Tryd.underlying3 (by kernel_rfl)
  obtain ⟨x1_5, y1_5, w1_5⟩ := field_intw 5 Tryd.underlying25 h1 rfl rfl Tryd.underlying3 (by kernel_rfl)
  obtain ⟨x1_6, y1_6, w1_6⟩ := field_intw 6 Tryd.underlying25 h1 rfl rfl Tryd.underlying3 (by kernel_rfl)
  obtain ⟨x1_7, y1_7, w1_7⟩ := field_intw 7 Tryd.underlying25 h1 rfl rfl Tryd.underlying3 (by kernel_rfl)
  obtain rfl := Option.some.inj y1_0
  obtain rfl := Option.some.inj y1_1
  obtain rfl := Option.some.inj y1_2
  obtain rfl := Option.some.inj y1_3
  obtain rfl := Option.some.inj y1_4
  obtain rfl := Option.some.inj y1_5
  obtain rfl := Option.some.inj y1_6
  obtain rfl := Option.some.inj y1_7
  clear hA0 hval0 hsz0 hsz
  refine (town_walk W x0_0 x0_1 x0_2 x0_3 x0_4 x0_5 x0_6 x0_7 (wf_i64 w0_0) (wf_i64 w0_1) (wf_u64b w0_2) (wf_u64b w0_3) (wf_i64 w0_4) (wf_i64 w0_5) (wf_i64 w0_6) (wf_i64 w0_7) x1_0 x1_1 x1_2 x1_3 x1_4 x1_5 x1_6 x1_7 (wf_i64 w1_0) (wf_i64 w1_1) (wf_u64b w1_2) (wf_u64b w1_3) (wf_i64 w1_4) (wf_i64 w1_5) (wf_i64 w1_6) (wf_i64 w1_7) hT).mono fun e W' ⟨he, bel⟩ => ?_
  subst he
  exact ⟨_, rfl, _, _, _, [], _, [], hW', trodAll_mk1 (shut_bool Tryd.underlying4 _), (trodAll_cons_mk (Below.trod laidOut (by kernel_rfl) (of_decide_eq_true (by kernel_rfl)) k0 bel lt0) (trodAll_cons_mk (Below.trod laidOut (by kernel_rfl) (of_decide_eq_true (by kernel_rfl)) k1 bel lt1) trodAll_mk0)), rfl, bel.frame _, fun h => by cases h⟩
def setC (cs : Array Value) : Obj → Obj
  | .cells _ t f => .cells cs t f
  | o => o
noncomputable def laidWorld (os : Os) : World :=
  { World.holding Tryd.prog os ⟨#[], #[], []⟩ with heap := Array.modify (Array.modify (World.holding Tryd.prog os ⟨#[], #[], []⟩).heap 0 (setC #[.int .i64 0, .int .i64 1, .int .i64 1, .int .i64 1, .int .i64 2, .int .i64 6, .int .i64 8, .int .i64 6, .int .i64 14, .int .i64 4, .int .i64 18, .int .i64 4, .int .i64 22, .int .i64 2, .int .i64 24, .int .i64 2])) 1 (setC #[.int .u8 170, .int .u8 169, .int .u8 166, .int .u8 165, .int .u8 154, .int .u8 153, .int .u8 150, .int .u8 149, .int .u8 106, .int .u8 105, .int .u8 102, .int .u8 101, .int .u8 90, .int .u8 89, .int .u8 86, .int .u8 85]) }
theorem laid_met (os : Os) : laidMet Tryd.prog Rows.tagsOwnRow.laid ((laidWorld os).forCall (fun _ _ => 0) ⟨#[], #[.agg #[.int .i64 0, .int .i64 0, .int .u64 0, .int .u64 0, .int .i64 0, .int .i64 0, .int .i64 0, .int .i64 0], .agg #[.int .i64 0, .int .i64 0, .int .u64 0, .int .u64 0, .int .i64 0, .int .i64 0, .int .i64 0, .int .i64 0]], []⟩).memory :=
  laidMet_of_run' 40 (by kernel_rfl) (by kernel_rfl)
theorem reads (os : Os) {H : Type} (enc : TypeId × Value → H) : ∃ places, DataW.whole enc Tryd.prog ((laidWorld os).forCall (fun _ _ => 0) ⟨#[], #[.agg #[.int .i64 0, .int .i64 0, .int .u64 0, .int .u64 0, .int .i64 0, .int .i64 0, .int .i64 0, .int .i64 0], .agg #[.int .i64 0, .int .i64 0, .int .u64 0, .int .u64 0, .int .i64 0, .int .i64 0, .int .i64 0, .int .i64 0]], []⟩).memory Tryd.f9.params.toList Rows.tagsOwnSpec.vars false (#[.agg #[.int .i64 0, .int .i64 0, .int .u64 0, .int .u64 0, .int .i64 0, .int .i64 0, .int .i64 0, .int .i64 0], .agg #[.int .i64 0, .int .i64 0, .int .u64 0, .int .u64 0, .int .i64 0, .int .i64 0, .int .i64 0, .int .i64 0]] : Array Value).toList 8 = some ([.agg [.lit (.int .i64 0), .lit (.int .i64 0), .lit (.int .u64 0), .lit (.int .u64 0), .lit (.int .i64 0), .lit (.int .i64 0), .lit (.int .i64 0), .lit (.int .i64 0)], .agg [.lit (.int .i64 0), .lit (.int .i64 0), .lit (.int .u64 0), .lit (.int .u64 0), .lit (.int .i64 0), .lit (.int .i64 0), .lit (.int .i64 0), .lit (.int .i64 0)]], [], places) :=
  ⟨[], by kernel_rfl⟩
set_option maxRecDepth 100000 in
theorem lifted (os : Os) (started : os.Started) (H : Type) (enc : TypeId × Value → H) (F : Stop.Interp) :
    ReturnsInHanded {} Tryd.checked os 9 .any ((OpenSpec.ofChange Rows.tagsOwnSpec).preRow enc Tryd.prog Tryd.f9 Rows.tagsOwnRow.domain false Rows.tagsOwnRow.laid) (((OpenSpec.ofChange Rows.tagsOwnSpec).at F).post enc Tryd.prog Tryd.f9 false true false false) := by
  obtain ⟨places, hx⟩ := reads os enc
  refine returnsInHanded_of_row (C := Tryd.checked) (s := OpenSpec.ofChange Rows.tagsOwnSpec) own started (by kernel_rfl) Tryd.func9
    (witness_row_at (enc := enc) (C := Tryd.checked) false (laidWorld os) #[.agg #[.int .i64 0, .int .i64 0, .int .u64 0, .int .u64 0, .int .i64 0, .int .i64 0, .int .i64 0, .int .i64 0], .agg #[.int .i64 0, .int .i64 0, .int .u64 0, .int .u64 0, .int .i64 0, .int .i64 0, .int .i64 0, .int .i64 0]] rfl (by kernel_rfl) (by kernel_rfl) (by kernel_rfl)
      (OpenSpec.preRow_of_cond 8 hx (by kernel_rfl) (fun k hk => by cases hk) (by kernel_rfl) (laid_met os))) ?_
  intro W base args ds gs before hval hW _ _ hsz hL _ _
  exact contract H enc W base args ds gs before hval hW hsz hL
theorem said : Rows.TagsOwnSaid :=
  OpenClaim.holds_of_cond 9 Tryd.f9 rfl rfl rfl rfl rfl rfl rfl ⟨rfl, rfl, rfl, rfl, rfl⟩ rfl rfl rfl rfl rfl (by kernel_rfl) Tryd.func9 (by kernel_rfl)
    (of_decide_eq_true (by kernel_rfl)) (by unfold Func.isWrapper; first | (rw [if_pos (by decide +kernel)]; kernel_rfl) | (rw [if_neg (by decide +kernel)]; exact ⟨rfl, rfl⟩))
    (fun os started H enc _ F => by rw [OpenClaim.pre_eq_preRow]; exact lifted os started H enc F)
theorem plain (f : FuncId) (fn : Func) (hf : Tryd.pinned.checked.prog.funcNamed "shale/shalelaw06.TagsOwn" = some f) (hfn : Tryd.pinned.checked.prog.funcs[f]? = some fn) :
    false = Tryd.pinned.checked.prog.looks [] ∧ ∀ (j : Nat) t, fn.params[j]? = some t → Tryd.pinned.checked.prog.wantsStandIn t = false := by
  obtain rfl : f = 9 := Option.some.inj ((show Tryd.prog.funcNamed "shale/shalelaw06.TagsOwn" = some 9 by kernel_rfl).symm.trans hf) |>.symm
  obtain rfl : fn = Tryd.f9 := (Option.some.inj (Tryd.func9.symm.trans hfn)).symm
  refine ⟨by kernel_rfl, fun j t ht => ?_⟩
  rw [Tryd.params9] at ht
  obtain rfl : t = 25 := by simpa using Array.mem_of_getElem? ht
  exact (show Tryd.prog.wantsStandIn 25 = false by kernel_rfl)
theorem card : Rows.TagsOwnCardSaid :=
  Claim7.holds_tied_plain_at .later [] _ _ _ _ said (fun _ h => by cases h) (by kernel_rfl) (fun _ h => by cases h) tagsOwn_row_tie rfl ⟨rfl, rfl⟩ (by kernel_rfl) rfl plain (by kernel_rfl)
end Go.Proofs.YtekbjcagjkcaiaaDoor.tagsOwn
namespace Go.Proofs.YtekbjcagjkcaiaaDoor
theorem tagsOwn_holds : Rows.TagsOwnCardSaid := tagsOwn.card
#print axioms tagsOwn_holds
end Go.Proofs.YtekbjcagjkcaiaaDoor
