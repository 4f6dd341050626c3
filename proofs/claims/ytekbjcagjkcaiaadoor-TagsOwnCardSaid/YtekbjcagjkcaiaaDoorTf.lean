/- Rules of kinds: ruleOf, may. -/
import Derived.Test.YtekbjcagjkcaiaaDoorTr
namespace Go.Proofs.YtekbjcagjkcaiaaDoor
open Go.RowKit
set_option linter.unusedVariables false
set_option linter.unusedSimpArgs false
theorem results_c1 {P : Program} {fn : Func} {p : Tmp} {ty : TypeId} (h : fn.results = #[.cell p ty]) (tmps : Array Value) (w : World) (g : Nat) (t : TypeId) (cs : Array Value) (fr : Nat × Nat) (d : TypeDesc)
    (hp : tmps.getD p undef = .pointer (some ⟨g, 0, none⟩)) (hg : w.heap[g]? = some (.cells cs t fr))
    (hu : P.underlying ty = some d) (hd : (match d with | .struct _ | .array _ _ => true | _ => false) = true) (hi : (P.info? ty).map (·.size) = some cs.size) :
    (results fn tmps).run P w = .ok (.agg cs) w := by
  have hp' : tmps[p]?.getD undef = .pointer (some ⟨g, 0, none⟩) := by simpa using hp
  simp [results, h, hp', asAddr, run_loadVar_row w g t ty cs fr d hg hu hd hi]
def RuleP (fl : List Int) (a b c d : Int) (em : Bool) (w : World) (e : Ending) (w' : World) : Prop :=
  ∃ g, e = .returned (.agg #[.slice (some ⟨g, 0, none⟩) fl.length fl.length, .int .i64 a, .int .i64 b, .int .i64 c, .int .i64 d, .bool em]) ∧ Blk w' g 3 (fl.map fun x => .int .i64 x) ∧ w.heap.size ≤ g ∧ Below w.heap.size w w'
set_option maxHeartbeats 1600000 in
theorem ruleOf_2 (w : World) : Calls Tryd.prog 38 #[.int .i64 2] w (RuleP [0, 1] 2 1048575 0 1 false w) := by
  have hk : Blk ((w.alloc (.cells #[.slice (some ⟨w.heap.size + 1, 0, none⟩) 2 2, .int .i64 2, .int .i64 1048575, .int .i64 0, .int .i64 1, .bool false] 77)).alloc (.cells #[.int .i64 0, .int .i64 1] 3)) w.heap.size 77 [.slice (some ⟨w.heap.size + 1, 0, none⟩) 2 2, .int .i64 2, .int .i64 1048575, .int .i64 0, .int .i64 1, .bool false] := (Blk.new w 77 [.slice (some ⟨w.heap.size + 1, 0, none⟩) 2 2, .int .i64 2, .int .i64 1048575, .int .i64 0, .int .i64 1, .bool false]).alloc _
  have hf : Blk ((w.alloc (.cells #[.slice (some ⟨w.heap.size + 1, 0, none⟩) 2 2, .int .i64 2, .int .i64 1048575, .int .i64 0, .int .i64 1, .bool false] 77)).alloc (.cells #[.int .i64 0, .int .i64 1] 3)) (w.heap.size + 1) 3 [.int .i64 0, .int .i64 1] := by
    have h := Blk.new (w.alloc (.cells #[.slice (some ⟨w.heap.size + 1, 0, none⟩) 2 2, .int .i64 2, .int .i64 1048575, .int .i64 0, .int .i64 1, .bool false] 77)) 3 [.int .i64 0, .int .i64 1]
    rw [World.size_alloc] at h
    exact h
  have hb : Below w.heap.size w ((w.alloc (.cells #[.slice (some ⟨w.heap.size + 1, 0, none⟩) 2 2, .int .i64 2, .int .i64 1048575, .int .i64 0, .int .i64 1, .bool false] 77)).alloc (.cells #[.int .i64 0, .int .i64 1] 3)) := ((Below.refl _ w).alloc (Nat.le_refl _) _).alloc (by simp) _
  have HK := Lib.hid hk
  have HF := Lib.hid hf
  have HB := Lib.hid hb
  clear hk hf hb
  go_enter Tryd.func38, Tryd.ntmps38
  go_wp2
  refine bodyPost_ret (results_c1 rfl _ _ w.heap.size 77 #[.slice (some ⟨w.heap.size + 1, 0, none⟩) 2 2, .int .i64 2, .int .i64 1048575, .int .i64 0, .int .i64 1, .bool false] (0, 0) _ rfl HK.out Tryd.underlying77 rfl (by kernel_rfl)) rfl ?_
  exact ⟨w.heap.size + 1, rfl, HF.out, Nat.le_succ _, HB.out⟩
set_option maxHeartbeats 1600000 in
theorem ruleOf_3 (w : World) : Calls Tryd.prog 38 #[.int .i64 3] w (RuleP [0, 1, 2] 2 1048575 1048575 1 false w) := by
  have hk : Blk ((w.alloc (.cells #[.slice (some ⟨w.heap.size + 1, 0, none⟩) 3 3, .int .i64 2, .int .i64 1048575, .int .i64 1048575, .int .i64 1, .bool false] 77)).alloc (.cells #[.int .i64 0, .int .i64 1, .int .i64 2] 3)) w.heap.size 77 [.slice (some ⟨w.heap.size + 1, 0, none⟩) 3 3, .int .i64 2, .int .i64 1048575, .int .i64 1048575, .int .i64 1, .bool false] := (Blk.new w 77 [.slice (some ⟨w.heap.size + 1, 0, none⟩) 3 3, .int .i64 2, .int .i64 1048575, .int .i64 1048575, .int .i64 1, .bool false]).alloc _
  have hf : Blk ((w.alloc (.cells #[.slice (some ⟨w.heap.size + 1, 0, none⟩) 3 3, .int .i64 2, .int .i64 1048575, .int .i64 1048575, .int .i64 1, .bool false] 77)).alloc (.cells #[.int .i64 0, .int .i64 1, .int .i64 2] 3)) (w.heap.size + 1) 3 [.int .i64 0, .int .i64 1, .int .i64 2] := by
    have h := Blk.new (w.alloc (.cells #[.slice (some ⟨w.heap.size + 1, 0, none⟩) 3 3, .int .i64 2, .int .i64 1048575, .int .i64 1048575, .int .i64 1, .bool false] 77)) 3 [.int .i64 0, .int .i64 1, .int .i64 2]
    rw [World.size_alloc] at h
    exact h
  have hb : Below w.heap.size w ((w.alloc (.cells #[.slice (some ⟨w.heap.size + 1, 0, none⟩) 3 3, .int .i64 2, .int .i64 1048575, .int .i64 1048575, .int .i64 1, .bool false] 77)).alloc (.cells #[.int .i64 0, .int .i64 1, .int .i64 2] 3)) := ((Below.refl _ w).alloc (Nat.le_refl _) _).alloc (by simp) _
  have HK := Lib.hid hk
  have HF := Lib.hid hf
  have HB := Lib.hid hb
  clear hk hf hb
  go_enter Tryd.func38, Tryd.ntmps38
  go_wp2
  refine bodyPost_ret (results_c1 rfl _ _ w.heap.size 77 #[.slice (some ⟨w.heap.size + 1, 0, none⟩) 3 3, .int .i64 2, .int .i64 1048575, .int .i64 1048575, .int .i64 1, .bool false] (0, 0) _ rfl HK.out Tryd.underlying77 rfl (by kernel_rfl)) rfl ?_
  exact ⟨w.heap.size + 1, rfl, HF.out, Nat.le_succ _, HB.out⟩
set_option maxHeartbeats 1600000 in
theorem ruleOf_4 (w : World) : Calls Tryd.prog 38 #[.int .i64 4] w (RuleP [0, 4] 1 65536 65536 4 false w) := by
  have hk : Blk ((w.alloc (.cells #[.slice (some ⟨w.heap.size + 1, 0, none⟩) 2 2, .int .i64 1, .int .i64 65536, .int .i64 65536, .int .i64 4, .bool false] 77)).alloc (.cells #[.int .i64 0, .int .i64 4] 3)) w.heap.size 77 [.slice (some ⟨w.heap.size + 1, 0, none⟩) 2 2, .int .i64 1, .int .i64 65536, .int .i64 65536, .int .i64 4, .bool false] := (Blk.new w 77 [.slice (some ⟨w.heap.size + 1, 0, none⟩) 2 2, .int .i64 1, .int .i64 65536, .int .i64 65536, .int .i64 4, .bool false]).alloc _
  have hf : Blk ((w.alloc (.cells #[.slice (some ⟨w.heap.size + 1, 0, none⟩) 2 2, .int .i64 1, .int .i64 65536, .int .i64 65536, .int .i64 4, .bool false] 77)).alloc (.cells #[.int .i64 0, .int .i64 4] 3)) (w.heap.size + 1) 3 [.int .i64 0, .int .i64 4] := by
    have h := Blk.new (w.alloc (.cells #[.slice (some ⟨w.heap.size + 1, 0, none⟩) 2 2, .int .i64 1, .int .i64 65536, .int .i64 65536, .int .i64 4, .bool false] 77)) 3 [.int .i64 0, .int .i64 4]
    rw [World.size_alloc] at h
    exact h
  have hb : Below w.heap.size w ((w.alloc (.cells #[.slice (some ⟨w.heap.size + 1, 0, none⟩) 2 2, .int .i64 1, .int .i64 65536, .int .i64 65536, .int .i64 4, .bool false] 77)).alloc (.cells #[.int .i64 0, .int .i64 4] 3)) := ((Below.refl _ w).alloc (Nat.le_refl _) _).alloc (by simp) _
  have HK := Lib.hid hk
  have HF := Lib.hid hf
  have HB := Lib.hid hb
  clear hk hf hb
  go_enter Tryd.func38, Tryd.ntmps38
  go_wp2
  refine bodyPost_ret (results_c1 rfl _ _ w.heap.size 77 #[.slice (some ⟨w.heap.size + 1, 0, none⟩) 2 2, .int .i64 1, .int .i64 65536, .int .i64 65536, .int .i64 4, .bool false] (0, 0) _ rfl HK.out Tryd.underlying77 rfl (by kernel_rfl)) rfl ?_
  exact ⟨w.heap.size + 1, rfl, HF.out, Nat.le_succ _, HB.out⟩
set_option maxHeartbeats 1600000 in
theorem ruleOf_else (k : Int) (h2 : k ≠ 2) (h3 : k ≠ 3) (h4 : k ≠ 4) (w : World) : Calls Tryd.prog 38 #[.int .i64 k] w (RuleP [0] 0 0 0 0 true w) := by
  have hk : Blk ((w.alloc (.cells #[.slice (some ⟨w.heap.size + 1, 0, none⟩) 1 1, .int .i64 0, .int .i64 0, .int .i64 0, .int .i64 0, .bool true] 77)).alloc (.cells #[.int .i64 0] 3)) w.heap.size 77 [.slice (some ⟨w.heap.size + 1, 0, none⟩) 1 1, .int .i64 0, .int .i64 0, .int .i64 0, .int .i64 0, .bool true] := (Blk.new w 77 [.slice (some ⟨w.heap.size + 1, 0, none⟩) 1 1, .int .i64 0, .int .i64 0, .int .i64 0, .int .i64 0, .bool true]).alloc _
  have hf : Blk ((w.alloc (.cells #[.slice (some ⟨w.heap.size + 1, 0, none⟩) 1 1, .int .i64 0, .int .i64 0, .int .i64 0, .int .i64 0, .bool true] 77)).alloc (.cells #[.int .i64 0] 3)) (w.heap.size + 1) 3 [.int .i64 0] := by
    have h := Blk.new (w.alloc (.cells #[.slice (some ⟨w.heap.size + 1, 0, none⟩) 1 1, .int .i64 0, .int .i64 0, .int .i64 0, .int .i64 0, .bool true] 77)) 3 [.int .i64 0]
    rw [World.size_alloc] at h
    exact h
  have hb : Below w.heap.size w ((w.alloc (.cells #[.slice (some ⟨w.heap.size + 1, 0, none⟩) 1 1, .int .i64 0, .int .i64 0, .int .i64 0, .int .i64 0, .bool true] 77)).alloc (.cells #[.int .i64 0] 3)) := ((Below.refl _ w).alloc (Nat.le_refl _) _).alloc (by simp) _
  have HK := Lib.hid hk
  have HF := Lib.hid hf
  have HB := Lib.hid hb
  clear hk hf hb
  go_enter Tryd.func38, Tryd.ntmps38
  go_wp2
  refine bodyPost_ret (results_c1 rfl _ _ w.heap.size 77 #[.slice (some ⟨w.heap.size + 1, 0, none⟩) 1 1, .int .i64 0, .int .i64 0, .int .i64 0, .int .i64 0, .bool true] (0, 0) _ rfl HK.out Tryd.underlying77 rfl (by kernel_rfl)) rfl ?_
  exact ⟨w.heap.size + 1, rfl, HF.out, Nat.le_succ _, HB.out⟩
def anyTo (fl : List Int) (f : Int) (i : Nat) : Bool := (fl.take i).any (fun x => x == f)
theorem anyTo_succ (fl : List Int) (f v : Int) (i : Nat) (h : fl[i]? = some v) : anyTo fl f (i + 1) = (anyTo fl f i || (v == f)) := by
  unfold anyTo
  have hi : i < fl.length := by
    rcases Nat.lt_or_ge i fl.length with h1 | h1
    · exact h1
    · rw [List.getElem?_eq_none h1] at h; cases h
  rw [List.take_succ_eq_append_getElem hi, List.any_append]
  have : fl[i] = v := by rw [List.getElem?_eq_getElem hi] at h; exact Option.some.inj h
  simp [this]
def mayP (a b c d k f o ch n : Int) : Prop := a ≤ o ∧ o ≤ b ∧ 0 ≤ ch ∧ ch ≤ c ∧ d ≤ n ∧ (k ≠ 4 ∨ (ch < o ∧ (f = 4 ↔ ch = o - 1)))
instance (a b c d k f o ch n : Int) : Decidable (mayP a b c d k f o ch n) := by unfold mayP; infer_instance
def mayD (kn em : Bool) (a b c d k f o ch n : Int) : Bool :=
  match kn, em with
  | false, _ => false
  | true, true => decide (mayP a b c d k f o ch n ∧ n ≤ 0)
  | true, false => decide (mayP a b c d k f o ch n)
theorem beq_iff2 (f x y : Int) : ((f == 4) == (x == y)) = decide (f = 4 ↔ x = y) := by
  rw [Bool.eq_iff_iff, beq_iff_eq, decide_eq_true_eq, Bool.eq_iff_iff, beq_iff_eq, beq_iff_eq]
theorem ret_b {x y : Bool} (h : x = y) : Ending.returned (Value.bool x) = Ending.returned (Value.bool y) := by rw [h]
set_option maxRecDepth 100000 in
set_option maxHeartbeats 6400000 in
theorem may_any (g m : Nat) (fl : List Int) (a b c d : Int) (em : Bool) (k f se be o ch n z : Int) (w : World) (hm : fl.length = m) (hm9 : m ≤ 9) (hb : Blk w g 3 (fl.map fun x => .int .i64 x)) (ha0 : 0 ≤ a) (ho2 : o ≤ 9223372036854775807) :
    Calls Tryd.prog 39 #[.agg #[.slice (some ⟨g, 0, none⟩) m m, .int .i64 a, .int .i64 b, .int .i64 c, .int .i64 d, .bool em], .agg #[.int .i64 k, .int .i64 f, .int .u64 se, .int .u64 be, .int .i64 o, .int .i64 ch, .int .i64 n, .int .i64 z]] w fun e w' => e = .returned (.bool (mayD (anyTo fl f m) em a b c d k f o ch n)) ∧ Below w.heap.size w w' := by
  obtain ⟨w2, hw2⟩ : ∃ x, x = (w.alloc (.cells #[.slice (some ⟨g, 0, none⟩) m m, .int .i64 a, .int .i64 b, .int .i64 c, .int .i64 d, .bool em] 77)).alloc (.cells #[.int .i64 k, .int .i64 f, .int .u64 se, .int .u64 be, .int .i64 o, .int .i64 ch, .int .i64 n, .int .i64 z] 25) := ⟨_, rfl⟩
  have hB : Below w.heap.size w w2 := by rw [hw2]; exact ((Below.refl _ w).alloc (Nat.le_refl _) _).alloc (by simp) _
  have kr : Blk w2 w.heap.size 77 [.slice (some ⟨g, 0, none⟩) m m, .int .i64 a, .int .i64 b, .int .i64 c, .int .i64 d, .bool em] := by rw [hw2]; exact (Blk.new w 77 [.slice (some ⟨g, 0, none⟩) m m, .int .i64 a, .int .i64 b, .int .i64 c, .int .i64 d, .bool em]).alloc _
  have kt : Blk w2 (w.heap.size + 1) 25 [.int .i64 k, .int .i64 f, .int .u64 se, .int .u64 be, .int .i64 o, .int .i64 ch, .int .i64 n, .int .i64 z] := by
    have h := Blk.new (w.alloc (.cells #[.slice (some ⟨g, 0, none⟩) m m, .int .i64 a, .int .i64 b, .int .i64 c, .int .i64 d, .bool em] 77)) 25 [.int .i64 k, .int .i64 f, .int .u64 se, .int .u64 be, .int .i64 o, .int .i64 ch, .int .i64 n, .int .i64 z]
    rw [World.size_alloc] at h
    rw [hw2]; exact h
  have kf : Blk w2 g 3 (fl.map fun x => .int .i64 x) := hb.frm (ex := fun _ => False) (Frm.of_below hB) id
  obtain ⟨G, hG⟩ : ∃ G, G = w.heap.size := ⟨_, rfl⟩
  rw [← hG] at kr kt
  have HM := Lib.hid hm
  have HBB := Lib.hid hB
  clear hm hb hB
  go_enter Tryd.func39, Tryd.ntmps39
  go_upto_region 1 with fail
  rw [← hw2, ← hG]
  clear hw2 hG
  have r0 : w2.cell? ⟨G, 0, none⟩ = some (.slice (some ⟨g, 0, none⟩) m m) := kr.cell 0
  have r1 : w2.cell? ⟨G, 1, none⟩ = some (.int .i64 a) := kr.cell 1
  have r2 : w2.cell? ⟨G, 2, none⟩ = some (.int .i64 b) := kr.cell 2
  have r3 : w2.cell? ⟨G, 3, none⟩ = some (.int .i64 c) := kr.cell 3
  have r4 : w2.cell? ⟨G, 4, none⟩ = some (.int .i64 d) := kr.cell 4
  have r5 : w2.cell? ⟨G, 5, none⟩ = some (.bool em) := kr.cell 5
  have t0 : w2.cell? ⟨G + 1, 0, none⟩ = some (.int .i64 k) := kt.cell 0
  have t1 : w2.cell? ⟨G + 1, 1, none⟩ = some (.int .i64 f) := kt.cell 1
  have t2 : w2.cell? ⟨G + 1, 2, none⟩ = some (.int .u64 se) := kt.cell 2
  have t3 : w2.cell? ⟨G + 1, 3, none⟩ = some (.int .u64 be) := kt.cell 3
  have t4 : w2.cell? ⟨G + 1, 4, none⟩ = some (.int .i64 o) := kt.cell 4
  have t5 : w2.cell? ⟨G + 1, 5, none⟩ = some (.int .i64 ch) := kt.cell 5
  have t6 : w2.cell? ⟨G + 1, 6, none⟩ = some (.int .i64 n) := kt.cell 6
  have t7 : w2.cell? ⟨G + 1, 7, none⟩ = some (.int .i64 z) := kt.cell 7
  clear kr kt
  go_wp2
  go_loopw [5, 7, 11] (fun kn _ i wr => ∃ q : Nat, q ≤ m ∧ i = .int .i64 q ∧ kn = .bool (anyTo fl f q) ∧ wr = w2) (fun _ _ i _ => m - (intI i))
  case atStart => exact ⟨0, by omega, rfl, rfl, rfl⟩
  case round =>
    obtain ⟨q, hq, rfl, rfl, rfl⟩ := hrel
    by_cases hlt : q < m
    · obtain ⟨v, hv⟩ : ∃ v, fl[q]? = some v := ⟨fl[q]'(by rw [HM.out]; exact hlt), List.getElem?_eq_getElem _⟩
      have hc : wr.cell? ⟨g, q, none⟩ = some (.int .i64 v) := by rw [kf.cell, List.getElem?_map, hv]; rfl
      have hs := anyTo_succ fl f v q hv
      have HS := Lib.hid hs
      clear hs hv
      cases hk : anyTo fl f q with
      | true =>
        rw [hk] at HS
        go_wp2
        go_roundw
        case rel => exact ⟨q + 1, by omega, by go_num, by rw [HS.out]; rfl, trivial⟩
        case measure => simp [intI]; omega
      | false =>
        rw [hk] at HS
        go_wp2
        go_roundw
        case rel => exact ⟨q + 1, by omega, by go_num, by rw [HS.out]; rfl, trivial⟩
        case measure => simp [intI]; omega
    · obtain rfl : q = m := by omega
      clear kf
      cases hk : anyTo fl f q with
      | false =>
        go_wp2
        all_goals go_ret
        all_goals refine ⟨?_, HBB.out⟩
        all_goals (try rw [hk])
        all_goals exact ret_b rfl
      | true =>
        (try rw [hk])
        by_cases hoa : o < a
        · clear ho2
          cases em with
          | true =>
            go_wp2
            all_goals go_ret
            all_goals refine ⟨?_, HBB.out⟩
            all_goals
              (refine ret_b ?_
               (try rw [hk])
               (try simp only [beq_iff_eq, beq_eq_false_iff_ne, ne_eq] at *)
               first
               | exact (decide_eq_false (by unfold mayP; omega)).symm
               | exact (decide_eq_true (by unfold mayP; omega)).symm
               | (rw [beq_iff2]; exact decide_eq_decide.2 (by unfold mayP; omega)))
          | false =>
            go_wp2
            all_goals go_ret
            all_goals refine ⟨?_, HBB.out⟩
            all_goals
              (refine ret_b ?_
               (try rw [hk])
               (try simp only [beq_iff_eq, beq_eq_false_iff_ne, ne_eq] at *)
               first
               | exact (decide_eq_false (by unfold mayP; omega)).symm
               | exact (decide_eq_true (by unfold mayP; omega)).symm
               | (rw [beq_iff2]; exact decide_eq_decide.2 (by unfold mayP; omega)))
        · have hwo : IntKind.i64.wrap (o - 1) = o - 1 := by rw [IntKind.wrap_i64]; omega
          have hoa2 : a ≤ o := by omega
          clear ho2
          cases em with
          | true =>
            go_wp2
            all_goals go_ret
            all_goals refine ⟨?_, HBB.out⟩
            all_goals
              (refine ret_b ?_
               (try rw [hk])
               (try simp only [beq_iff_eq, beq_eq_false_iff_ne, ne_eq] at *)
               first
               | exact (decide_eq_false (by unfold mayP; omega)).symm
               | exact (decide_eq_true (by unfold mayP; omega)).symm
               | (rw [beq_iff2]; exact decide_eq_decide.2 (by unfold mayP; omega)))
          | false =>
            go_wp2
            all_goals go_ret
            all_goals refine ⟨?_, HBB.out⟩
            all_goals
              (refine ret_b ?_
               (try rw [hk])
               (try simp only [beq_iff_eq, beq_eq_false_iff_ne, ne_eq] at *)
               first
               | exact (decide_eq_false (by unfold mayP; omega)).symm
               | exact (decide_eq_true (by unfold mayP; omega)).symm
               | (rw [beq_iff2]; exact decide_eq_decide.2 (by unfold mayP; omega)))
end Go.Proofs.YtekbjcagjkcaiaaDoor
