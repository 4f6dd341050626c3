/- How an image that came in is opened: its numbers, its bytes, its marks. -/
import Derived.Test.YtloamkbkcdhaiaaRows
import Derived.Test.YtloamkbkcdhaiaaIm
import Derived.WalkKit
import Derived.ProofKit
import Derived.OpenShut
import Derived.ChangeOld
import Derived.Below
import Derived.SizedLaws
import Derived.ChangeSlices
import Derived.Deep.Strs
import Derived.Deep.Grids
namespace Go.Proofs.Ytloamkbkcdhaiaa
open Go.ChangeShapes Go.WideShapes Go.ChangeAt Go.RowKit
set_option linter.unusedVariables false
theorem cellsG : Try.prog.cellsOf 23 = 3 := by kernel_rfl
theorem cellsM : Try.prog.cellsOf 27 = 5 := by kernel_rfl
theorem cellsI : Try.prog.cellsOf 3 = 1 := by kernel_rfl
theorem cellsB : Try.prog.cellsOf 5 = 1 := by kernel_rfl
theorem cellsBo : Try.prog.cellsOf 4 = 1 := by kernel_rfl
theorem cellsSB : Try.prog.cellsOf 24 = 1 := by kernel_rfl
theorem cellsSBo : Try.prog.cellsOf 25 = 1 := by kernel_rfl
theorem bytesB : Try.prog.bytesOf 5 = 1 := by kernel_rfl
theorem bytesBo : Try.prog.bytesOf 4 = 1 := by kernel_rfl
theorem five {P : Program} {W : World} {r : Reach} {base : Nat} {t : TypeId} {v : Value} {fs : Array Field} (h : Value.okWide P W r base t v) (hu : P.underlying t = some (.struct fs)) (hc : P.cellsOf t = 5) : ∃ c0 c1 c2 c3 c4, v = .agg #[c0, c1, c2, c3, c4] := by
  obtain ⟨cs, rfl, hsz⟩ := okWide_struct hu h
  rw [hc] at hsz
  obtain ⟨l⟩ := cs
  match l, hsz with
  | [c0, c1, c2, c3, c4], _ => exact ⟨c0, c1, c2, c3, c4, rfl⟩
theorem rd_ints {w : World} {a : Addr} {len cap : Nat} {zs : List Int} (hl : len ≤ cap) (hz : zs.length = cap) (hc : ∀ i, i < zs.length → w.cell? (a.add i) = some (.int .u8 (zs.getD i 0))) : Rd w (some a) (ints (zs.take len)) := fun _ => by
  refine ⟨a, rfl, fun j u hu => ?_⟩
  have hj : j < len := by
    rcases Nat.lt_or_ge j len with h | h
    · exact h
    · rw [List.getElem?_eq_none (by rw [ints_len, List.length_take]; omega)] at hu; cases hu
  rw [hc j (by omega)]
  rw [← hu]
  simp [ints, hj, List.getElem?_eq_getElem (show j < zs.length by omega)]
theorem rd_bools {w : World} {a : Addr} {len cap : Nat} {B : Nat → Bool} (hl : len ≤ cap) (hc : ∀ i, i < cap → w.cell? (a.add i) = some (.bool (B i))) : Rd w (some a) (bools ((List.range len).map B)) := fun _ => by
  refine ⟨a, rfl, fun j u hu => ?_⟩
  have hj : j < len := by
    rcases Nat.lt_or_ge j len with h | h
    · exact h
    · rw [List.getElem?_eq_none (by rw [bools_len]; simp; omega)] at hu; cases hu
  rw [hc j (by omega), ← hu]
  simp [bools, hj]
theorem open_image {H : Type} {enc : TypeId × Value → H} {W : World} {c0 c1 c2 c3 c4 : Value} {d : DataW H} {ps : List MemPlace} {t : TypeId} (ht : t = 27)
    (h : DataW.Trod enc Try.prog W 0 (fun _ => true) true t (.agg #[c0, c1, c2, c3, c4]) d ps) (hsz : (d.weights Try.prog t).all (· ≤ reachBytes) = true) :
    ∃ b p s A n c A2 n2 c2' l lb, c0 = .int .i64 b ∧ c1 = .int .i64 p ∧ c2 = .int .i64 s ∧ c3 = .slice A n c ∧ c4 = .slice A2 n2 c2' ∧ List.length l = n ∧ List.length lb = n2 ∧ Rd W A (ints l) ∧ Rd W A2 (bools lb) ∧ n ≤ 140737488351232 ∧ n2 ≤ 140737488351232 ∧ n ≤ c ∧ n2 ≤ c2' := by
  subst ht
  obtain ⟨fuel, hf⟩ := h
  obtain ⟨y0, y1, y2, m, hx, _, hy0, hy1, hy2⟩ := Go.Deep.trod_struct3 Try.underlying27 hf
  have e0 : ((Value.agg #[c0, c1, c2, c3, c4]).cells.toList.drop 0).take 3 = [c0, c1, c2] := rfl
  have e1 : ((Value.agg #[c0, c1, c2, c3, c4]).cells.toList.drop 3).take 1 = [c3] := rfl
  have e2 : ((Value.agg #[c0, c1, c2, c3, c4]).cells.toList.drop 4).take 1 = [c4] := rfl
  dsimp only at hy0 hy1 hy2
  rw [cellsG, e0] at hy0
  rw [cellsSB, e1] at hy1
  rw [cellsSBo, e2] at hy2
  obtain ⟨hx, _⟩ := Prod.mk.inj hx
  subst hx
  have hw : (DataW.weightsEach Try.prog [23, 24, 25] [y0.1, y1.1, y2.1]).all (· ≤ reachBytes) = true := by
    have h := hsz
    rw [DataW.weights, Try.underlying27] at h
    exact h
  clear hsz hf
  obtain ⟨z0, z1, z2, m2, _, _, hz0, hz1, hz2⟩ := Go.Deep.trod_struct3 Try.underlying23 hy0
  obtain ⟨b, eb, _, _⟩ := DataW.trod_int Try.underlying3 hz0
  obtain ⟨p, ep, _, _⟩ := DataW.trod_int Try.underlying3 hz1
  obtain ⟨s, es, _, _⟩ := DataW.trod_int Try.underlying3 hz2
  dsimp only at eb ep es
  rw [cellsI] at eb ep es
  have eb' : c0 = .int .i64 b := by simpa using eb
  have ep' : c1 = .int .i64 p := by simpa using ep
  have es' : c2 = .int .i64 s := by simpa using es
  have hA : ∃ (A : Option Addr) (n c : Nat) (l : List Int), c3 = .slice A n c ∧ l.length = n ∧ Rd W A (ints l) ∧ n ≤ 140737488351232 ∧ n ≤ c := by
    rcases open_ints Try.underlying24 Try.underlying5 cellsB hy1 with ⟨hcs, _⟩ | ⟨a, len, cap, zs, hcs, _, hl, _, hz, hx1, hcell, _⟩
    · exact ⟨none, 0, 0, [], by simpa using hcs, rfl, Rd.nil _ _, by omega, by omega⟩
    · simp only [if_true] at hz
      have hy : y1.1 = .slice (lits .u8 (zs.take len)) (lits .u8 (zs.drop len)) := by rw [hx1]
      have z := sized_slice hw (j := 1) (t := 24) rfl (by rw [← hy]; rfl) Try.underlying24
      rw [bytesB] at z
      have h1 : (lits (H := H) .u8 (zs.take len)).length + (lits (H := H) .u8 (zs.drop len)).length = zs.length := by
        simp [lits]
        omega
      rw [h1] at z
      have z3 : zs.length ≤ 140737488351232 := by unfold reachBytes at z; omega
      exact ⟨some a, len, cap, zs.take len, by simpa using hcs, by rw [List.length_take]; omega, rd_ints hl hz hcell, by omega, hl⟩
  have hA2 : ∃ (A : Option Addr) (n c : Nat) (l : List Bool), c4 = .slice A n c ∧ l.length = n ∧ Rd W A (bools l) ∧ n ≤ 140737488351232 ∧ n ≤ c := by
    rcases Go.Deep.open_bools Try.underlying25 Try.underlying4 cellsBo hy2 with ⟨hcs, _⟩ | ⟨a, len, cap, B, hcs, _, hl, _, hx1, hcell⟩
    · exact ⟨none, 0, 0, [], by simpa using hcs, rfl, Rd.nil _ _, by omega, by omega⟩
    · have hy : y2.1 = .slice ((List.range len).map fun i => .lit (.bool (B i))) ((List.range (cap - len)).map fun j => .lit (.bool (B (len + j)))) := by rw [hx1]; rfl
      have hy2' : [y0.1, y1.1, y2.1][2]? = some (.slice ((List.range len).map fun i => .lit (.bool (B i))) ((List.range (cap - len)).map fun j => .lit (.bool (B (len + j))))) := by rw [← hy]; rfl
      have z := sized_slice hw (j := 2) (t := 25) rfl hy2' Try.underlying25
      rw [bytesBo] at z
      simp at z
      have z2 : len ≤ 140737488351232 := by unfold reachBytes at z; omega
      exact ⟨some a, len, cap, (List.range len).map B, by simpa using hcs, by simp, rd_bools hl hcell, z2, hl⟩
  obtain ⟨A, n, c, l, ec, hl, hr, hm, hc⟩ := hA
  obtain ⟨A2, n2, c2', lb, ec2, hlb, hrb, hm2, hc2⟩ := hA2
  exact ⟨b, p, s, A, n, c, A2, n2, c2', l, lb, eb', ep', es', ec, ec2, hl, hlb, hr, hrb, hm, hm2, hc, hc2⟩
end Go.Proofs.Ytloamkbkcdhaiaa
