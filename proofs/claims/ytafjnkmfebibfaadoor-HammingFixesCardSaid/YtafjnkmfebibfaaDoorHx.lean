/- Walks of the sum of a sector: the program's. -/
import Derived.Test.YtafjnkmfebibfaaDoorHw
import Derived.Laws.Rows
namespace Go.Proofs.YtafjnkmfebibfaaDoor
open Go.RowKit
set_option linter.unusedVariables false
set_option linter.unusedSimpArgs false
theorem results_c1 {P : Program} {fn : Func} {p : Tmp} {ty : TypeId} (h : fn.results = #[.cell p ty]) (tmps : Array Value) (w : World) (g : Nat) (t : TypeId) (cs : Array Value) (fr : Nat × Nat) (d : TypeDesc)
    (hp : tmps.getD p undef = .pointer (some ⟨g, 0, none⟩)) (hg : w.heap[g]? = some (.cells cs t fr))
    (hu : P.underlying ty = some d) (hd : (match d with | .struct _ | .array _ _ => true | _ => false) = true) (hi : (P.info? ty).map (·.size) = some cs.size) :
    (results fn tmps).run P w = .ok (.agg cs) w := by
  have hp' : tmps[p]?.getD undef = .pointer (some ⟨g, 0, none⟩) := by simpa using hp
  simp [results, h, hp', asAddr, run_loadVar_row w g t ty cs fr d hg hu hd hi]
theorem results_ct' {P : Program} {fn : Func} {p u : Tmp} {ty : TypeId} (h : fn.results = #[.cell p ty, .tmp u]) (tmps : Array Value) (w : World) (g : Nat) (t : TypeId) (cs : Array Value) (fr : Nat × Nat) (d : TypeDesc)
    (hp : tmps.getD p undef = .pointer (some ⟨g, 0, none⟩)) (hg : w.heap[g]? = some (.cells cs t fr))
    (hu : P.underlying ty = some d) (hd : (match d with | .struct _ | .array _ _ => true | _ => false) = true) (hi : (P.info? ty).map (·.size) = some cs.size) :
    (results fn tmps).run P w = .ok (.tuple #[.agg cs, tmps.getD u undef]) w := by
  have hp' : tmps[p]?.getD undef = .pointer (some ⟨g, 0, none⟩) := by simpa using hp
  simp [results, h, hp', asAddr, run_loadVar_row w g t ty cs fr d hg hu hd hi]
theorem and7 (x : Nat) (hx : x < 16) : Go.bits .and .u32 (x : Int) 7 = ((x % 8 : Nat) : Int) := by
  rw [show (7 : Int) = ((7 : Nat) : Int) from rfl, u32_and_nat _ _ (by omega) (by decide), show (7 : Nat) = 2 ^ 3 - 1 from rfl, Nat.and_two_pow_sub_one_eq_mod]
theorem and8_tab : ∀ x : Fin 16, x.val &&& 8 = (if x.val / 8 % 2 = 1 then 8 else 0) := by decide
theorem and8 (x : Nat) (hx : x < 16) : Go.bits .and .u32 (x : Int) 8 = (if x / 8 % 2 = 1 then 8 else 0) := by
  rw [show (8 : Int) = ((8 : Nat) : Int) from rfl, u32_and_nat _ _ (by omega) (by decide), and8_tab ⟨x, hx⟩]
  split <;> rfl
set_option maxRecDepth 10000 in
set_option maxHeartbeats 1600000 in
theorem sum_any (A : Option Addr) (n cap : Nat) (l : List UInt8) (w : World) (hl : l.length = n) (hn : n = 256) (hr : Rd w A (u8s l)) :
    Calls Tryd.prog 25 #[.slice A n cap] w fun e w' => e = .returned (.int .u32 ((sumN l : Nat) : Int)) ∧ w = w' := by
  have HL := Lib.hid hl
  have HN := Lib.hid hn
  have hn1 : n ≤ 256 := by omega
  obtain ⟨fx, hfx⟩ : ∃ fx : Nat → Nat, fx = fun j => numX l (8 * j) := ⟨_, rfl⟩
  obtain ⟨fa, hfa⟩ : ∃ fa : Nat → Nat, fa = fun j => numA l (8 * j) := ⟨_, rfl⟩
  have HX := Lib.hid hfx
  have HA := Lib.hid hfa
  clear hl hn hfx hfa
  go_enter Tryd.func25, Tryd.ntmps25
  go_wp2
  go_loopw [3, 4, 10] (fun x a i wr => ∃ j : Nat, j ≤ n ∧ i = .int .i64 j ∧ x = .int .u32 ((fx j : Nat) : Int) ∧ a = .int .u32 ((fa j : Nat) : Int) ∧ wr = w) (fun _ _ i _ => n - (intI i))
  case atStart => exact ⟨0, by omega, rfl, by rw [HX.out]; rfl, by rw [HA.out]; rfl, rfl⟩
  case round =>
    obtain ⟨j, hj, rfl, rfl, rfl, rfl⟩ := hrel
    by_cases hlt : j < n
    · obtain ⟨ad, rfl, hc⟩ := hr.at_ (k := j) (u8s_bt l j (by have := HL.out; omega))
      have hs : fx (j + 1) = (if oddN (bt l j) / 8 % 2 = 1 then fx j ^^^ oddN (bt l j) % 8 ^^^ 8 * j else fx j ^^^ oddN (bt l j) % 8) ∧
        fa (j + 1) = (if oddN (bt l j) / 8 % 2 = 1 then fa j ^^^ 2047 else fa j) := by rw [HX.out, HA.out]; exact byte_step l j
      have hx : fx j < 2048 := by rw [HX.out]; exact numX_lt l (8 * j) (by omega)
      have ha : fa j < 2048 := by rw [HA.out]; exact numA_lt l (8 * j)
      have hq : fx j ^^^ oddN (bt l j) % 8 < 2048 := Nat.xor_lt_two_pow (n := 11) hx (show _ < 2048 by omega)
      have hO := odd_any (bt l j)
      have ho := odd_lt (bt l j)
      generalize oddN (bt l j) = o at hs ho hO hq ⊢
      have e7 := and7 o ho
      have e8 := and8 o ho
      by_cases hp : o / 8 % 2 = 1
      · rw [if_pos hp, if_pos hp] at hs
        rw [if_pos hp] at e8
        have HS := Lib.hid hs
        have HP := Lib.hid hp
        clear hs hp
        go_wp2_with (go_at_call 29; (with_reducible refine (hO _).mono ?_); rintro e w' ⟨rfl, rfl⟩)
        obtain ⟨e1, e2⟩ := HS.out
        have e3 : Go.bits .xor .u32 ((fx j : Nat) : Int) ((o : Int) % 8) = ((fx j ^^^ o % 8 : Nat) : Int) := u32_xor_nat (fx j) (o % 8) (by omega) (by omega)
        have e4 : Go.bits .xor .u32 ((fx j ^^^ o % 8 : Nat) : Int) ((j : Int) * 8) = ((fx j ^^^ o % 8 ^^^ 8 * j : Nat) : Int) := by
          rw [show (j : Int) * 8 = ((8 * j : Nat) : Int) by omega]; exact u32_xor_nat _ (8 * j) (by omega) (by omega)
        have e5 : Go.bits .xor .u32 ((fa j : Nat) : Int) 2047 = ((fa j ^^^ 2047 : Nat) : Int) := u32_xor_nat (fa j) 2047 (by omega) (by decide)
        refine ⟨⟨j + 1, hlt, rfl, ?_, ?_, trivial⟩, by simp [intI]; omega⟩
        · rw [e1, e3, e4]
        · rw [e2, e5]
      · rw [if_neg hp, if_neg hp] at hs
        rw [if_neg hp] at e8
        have HS := Lib.hid hs
        have HP := Lib.hid hp
        clear hs hp
        go_wp2_with (go_at_call 29; (with_reducible refine (hO _).mono ?_); rintro e w' ⟨rfl, rfl⟩)
        obtain ⟨e1, e2⟩ := HS.out
        have e3 : Go.bits .xor .u32 ((fx j : Nat) : Int) ((o : Int) % 8) = ((fx j ^^^ o % 8 : Nat) : Int) := u32_xor_nat (fx j) (o % 8) (by omega) (by omega)
        refine ⟨⟨j + 1, hlt, rfl, ?_, ?_, trivial⟩, by simp [intI]; omega⟩
        · rw [e1, e3]
        · rw [e2]
    · obtain rfl : j = n := by omega
      have hx : numX l 2048 < 2048 := numX_lt l 2048 (by omega)
      have ha := numA_lt l 2048
      have ex : fx j = numX l 2048 := by rw [HX.out, HN.out]
      have ea : fa j = numA l 2048 := by rw [HA.out, HN.out]
      have hp : (numX l 2048 ^^^ numA l 2048) < 2048 := Nat.xor_lt_two_pow (n := 11) hx ha
      have hw : sumN l = packN (numX l 2048) (numA l 2048) := rfl
      rw [← ex, ← ea] at hw hp
      rw [← ex] at hx
      rw [← ea] at ha
      have HW := Lib.hid hw
      clear hw ex ea
      have hxx := u32_xor_nat (fx j) (fa j) (by omega) (by omega)
      generalize fx j = x at *
      generalize fa j = a at *
      go_wp2_with (go_at_call 30; (first | with_reducible refine (spread_any x hx _).mono ?_ | with_reducible refine (spread_any (x ^^^ a) hp _).mono ?_); rintro e w' ⟨rfl, rfl⟩)
      have g1 := spr_lt x
      have g2 := spr_lt (x ^^^ a)
      have e1 : ((spr x : Nat) : Int) * 2 % 4294967296 = ((2 * spr x : Nat) : Int) := by omega
      have e2 := u32_or_nat (2 * spr x) (spr (x ^^^ a)) (by omega) (by omega)
      have e3 := u32_or_nat (2 * spr x ||| spr (x ^^^ a)) 12582912 (Nat.or_lt_two_pow (n := 32) (by omega) (by omega)) (by decide)
      have e4 := pack_or x a
      go_ret
      refine ⟨?_, rfl⟩
      rw [HW.out, ← e4, e1, e2, ← e3]
      rfl
/-- The three bytes of a number. -/
def triC (n : Nat) : List Value := [.int .u8 ((n : Int) % 256), .int .u8 ((n : Int) / 256 % 256), .int .u8 ((n : Int) / 65536 % 256)]
def tri (n : Nat) : Value := .agg (triC n).toArray
theorem tri_zero : Value.agg #[.int .u8 0, .int .u8 0, .int .u8 0] = tri 0 := rfl
set_option maxHeartbeats 800000 in
theorem three_any (n : Nat) (hn : n < 4294967296) (w : World) : Calls Tryd.prog 26 #[.int .u32 (n : Int)] w fun e w' => e = .returned (tri n) ∧ Below w.heap.size w w' := by
  go_enter Tryd.func26, Tryd.ntmps26
  go_wp2
  refine bodyPost_ret (results_cell_row rfl _ _ w.heap.size 23 (triC n).toArray (0, 0) _ rfl (Blk.new w 23 (triC n)) Tryd.underlying23 rfl (by kernel_rfl)) rfl ?_
  exact ⟨rfl, (Below.refl _ _).alloc (Nat.le_refl _) _⟩
/-- A sector's sum and its error. -/
def sumR (l : List UInt8) (n : Nat) : Value := .tuple #[tri (if n = 256 then sumN l else 0), .int .i64 (if n = 256 then 0 else 20)]
set_option maxHeartbeats 1600000 in
theorem Sum_any (A : Option Addr) (n cap : Nat) (l : List UInt8) (w : World) (hl : l.length = n) (hm : n ≤ 140737488355328) (hr : Rd w A (u8s l)) :
    Calls Tryd.prog 14 #[.slice A n cap] w fun e w' => e = .returned (sumR l n) ∧ Below w.heap.size w w' := by
  by_cases hn : n = 256
  · unfold sumR
    rw [if_pos hn, if_pos hn]
    have HL := Lib.hid hl
    have HN := Lib.hid hn
    clear hl
    have hnn : ((n : Nat) : Int) = 256 := by omega
    clear hn
    have hs := sumN_lt l
    have hb1 : Blk (w.alloc (.cells (triC 0).toArray 23)) w.heap.size 23 (triC 0) := Blk.new w _ _
    go_enter Tryd.func14, Tryd.ntmps14
    go_wp2_with (go_at_call 25; (with_reducible refine (sum_any A n cap l _ HL.out HN.out (hr.alloc _)).mono ?_); rintro e w' ⟨rfl, rfl⟩)
    go_at_call 26
    (with_reducible refine (three_any (sumN l) (by omega) _).mono ?_)
    rintro e w1 ⟨rfl, hy⟩
    have hb2 : Blk w1 w.heap.size 23 (triC 0) := hb1.frm (ex := fun _ => False) (Frm.of_below hy) id
    have hB : Below w.heap.size w w1 := ((Below.refl _ w).alloc (Nat.le_refl _) _).trans (hy.mono (by simp))
    have hs1 := hy.size
    obtain ⟨x0, x1, x2, hx⟩ : ∃ x0 x1 x2 : Int, triC (sumN l) = [.int .u8 x0, .int .u8 x1, .int .u8 x2] := ⟨_, _, _, rfl⟩
    unfold tri
    rw [hx]
    have c0 : w1.cell? ⟨w.heap.size, 0, none⟩ = some (.int .u8 0) := by rw [hb2.cell]; rfl
    have c1 : w1.cell? ⟨w.heap.size, 1, none⟩ = some (.int .u8 0) := by rw [hb2.cell]; rfl
    have c2 : w1.cell? ⟨w.heap.size, 2, none⟩ = some (.int .u8 0) := by rw [hb2.cell]; rfl
    have z0 := hb2.frozen 0
    have z1 := hb2.frozen 1
    have z2 := hb2.frozen 2
    have hb3 := ((hb2.set_ 0 (.int .u8 x0)).set_ 1 (.int .u8 x1)).set_ 2 (.int .u8 x2)
    have hB3 : Below w.heap.size w (((w1.setCell ⟨w.heap.size, 0, none⟩ (.int .u8 x0)).setCell ⟨w.heap.size, 1, none⟩ (.int .u8 x1)).setCell ⟨w.heap.size, 2, none⟩ (.int .u8 x2)) := ((hB.setCell (Nat.le_refl _) _).setCell (Nat.le_refl _) _).setCell (Nat.le_refl _) _
    clear hb1 hb2 hy
    go_wp2
    refine bodyPost_ret (results_ct' rfl _ _ w.heap.size 23 #[.int .u8 x0, .int .u8 x1, .int .u8 x2] (0, 0) _ rfl hb3 Tryd.underlying23 rfl (by kernel_rfl)) rfl ?_
    exact ⟨by unfold tri; rw [hx]; rfl, hB3⟩
  · unfold sumR
    rw [if_neg hn, if_neg hn]
    have hnn : ¬ ((n : Nat) : Int) = 256 := by omega
    go_enter Tryd.func14, Tryd.ntmps14
    go_wp2
    refine bodyPost_ret (results_ct' rfl _ _ w.heap.size 23 (triC 0).toArray (0, 0) _ rfl (Blk.new w 23 (triC 0)) Tryd.underlying23 rfl (by kernel_rfl)) rfl ?_
    exact ⟨rfl, (Below.refl _ _).alloc (Nat.le_refl _) _⟩
end Go.Proofs.YtafjnkmfebibfaaDoor
