/- The program's judge in memory; the walk of its New. -/
import Derived.Test.YtagfcndpblekkaaJf
namespace Go.Proofs.Ytagfcndpblekkaa
open Go.RowKit Go.Maps
set_option linter.unusedVariables false
set_option linter.unusedSimpArgs false
def iv (l : List Int) : List Value := l.map (Value.int .i64)
theorem iv_len (l : List Int) : (iv l).length = l.length := by simp [iv]
/-- Where a judge's blocks lie. -/
structure JA where
  q : Nat
  bm : Nat
  bt : Nat
  ff : Nat
  tt : Nat
  ww : Nat
def JA.own (a : JA) (k : Nat) : Prop := k = a.q ∨ k = a.bm ∨ k = a.bt ∨ k = a.ff ∨ k = a.tt ∨ k = a.ww
def JA.apart (a : JA) : Prop := a.q ≠ a.bm ∧ a.q ≠ a.bt ∧ a.q ≠ a.ff ∧ a.q ≠ a.tt ∧ a.q ≠ a.ww ∧ a.bm ≠ a.bt ∧ a.bm ≠ a.ff ∧ a.bm ≠ a.tt ∧ a.bm ≠ a.ww ∧ a.bt ≠ a.ff ∧ a.bt ≠ a.tt ∧ a.bt ≠ a.ww ∧ a.ff ≠ a.tt ∧ a.ff ≠ a.ww ∧ a.tt ≠ a.ww
def stV (a : JA) (Bn : Nat) (b pg sc : Int) : List Value := [.int .i64 b, .int .i64 pg, .int .i64 sc, .map (some a.bm), .slice (some ⟨a.ff, 0, none⟩) Bn Bn, .map (some a.bt), .slice (some ⟨a.tt, 0, none⟩) Bn Bn, .slice (some ⟨a.ww, 0, none⟩) Bn Bn]
structure JP (w : World) (a : JA) (Bn : Nat) (b pg sc : Int) (J : JS) (n : Nat) : Prop where
  st : Blk w a.q 83 (stV a Bn b pg sc)
  ma : MapI w a.bm n J.ma
  tr : MapT w a.bt n J.tr
  fl : Blk w a.ff 3 (iv J.fl)
  tp : Blk w a.tt 3 (iv J.tp)
  wr : Blk w a.ww 3 (iv J.wr)
  ne : a.apart
theorem mk_slice (b : Int) (Bn : Nat) (hb : b = Bn) (hB : Bn ≤ 1048576) (wx : World) : (Instr.makeSlice 38 (.int .i64 b) (.int .i64 b)).run Try.prog wx = .ok (.slice (some ⟨wx.heap.size, 0, none⟩) Bn Bn) (wx.alloc (.cells (iv (List.replicate Bn 0)).toArray 3)) := by
  subst hb
  have hi : (Try.prog.info? 3).map (fun i => (i.zero, i.size, i.bytes)) = some (some (.int .i64 0), 1, 8) := by kernel_rfl
  obtain ⟨i, hi, hz, hs, hby⟩ := info_parts hi
  have h := run_make (P := Try.prog) wx 38 3 i (.int .i64 0) Try.underlying38 hi hz .i64 .i64 (Bn : Int) (Bn : Int) (by omega) (by omega) (by rw [hby]; omega) (by omega)
  have e : madeCells (Value.int .i64 0).cells ((Bn : Int).toNat * i.size) = (iv (List.replicate Bn 0)).toArray := by
    rw [hs]
    apply Array.ext
    · simp [madeCells, iv]
    · intro j h1 h2
      simp [madeCells, iv, Value.cells, Nat.mod_one]
  rw [e] at h
  exact h
end Go.Proofs.Ytagfcndpblekkaa
