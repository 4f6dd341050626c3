/- Walks: both judges' Next, the law's sameInts. -/
import Derived.Test.YtagfcndpblekkaaJae
namespace Go.Proofs.Ytagfcndpblekkaa
open Go.RowKit Go.Maps
set_option linter.unusedVariables false
set_option linter.unusedSimpArgs false
/-- What Next tells of a block: the page, the error. -/
def nxT (B p : Int) (m : List Bool) (clean : Bool) (seen : List Cmd) (blk : Int) : Int := if blk < 0 ∨ B ≤ blk then 0 else if mkR m seen blk = true then p else nxR p clean seen blk
def nxE (B blk : Int) : Int := if blk < 0 ∨ B ≤ blk then 41 else 0
theorem nx_out {B p : Int} {m : List Bool} {clean : Bool} {seen : List Cmd} {blk : Int} (h : blk < 0 ∨ B ≤ blk) : nxT B p m clean seen blk = 0 ∧ nxE B blk = 41 := by unfold nxT nxE; rw [if_pos h, if_pos h]; exact ⟨rfl, rfl⟩
theorem nx_mk {B p : Int} {m : List Bool} {clean : Bool} {seen : List Cmd} {blk : Int} (h : ¬ (blk < 0 ∨ B ≤ blk)) (hm : mkR m seen blk = true) : nxT B p m clean seen blk = p ∧ nxE B blk = 0 := by unfold nxT nxE; rw [if_neg h, if_neg h, if_pos hm]; exact ⟨rfl, rfl⟩
theorem nx_un {B p : Int} {m : List Bool} {clean : Bool} {seen : List Cmd} {blk : Int} (h : ¬ (blk < 0 ∨ B ≤ blk)) (hm : mkR m seen blk = false) : nxT B p m clean seen blk = nxR p clean seen blk ∧ nxE B blk = 0 := by unfold nxT nxE; rw [if_neg h, if_neg h, if_neg (by rw [hm]; decide)]; exact ⟨rfl, rfl⟩
theorem ret_2 {x y x' y' : Int} (h : x' = x ∧ y' = y) : Ending.returned (Value.tuple #[.int .i64 x, .int .i64 y]) = Ending.returned (Value.tuple #[.int .i64 x', .int .i64 y']) := by rw [h.1, h.2]
set_option maxRecDepth 100000 in
set_option maxHeartbeats 3200000 in
theorem Next_any (a : JA) (Bn : Nat) (p s : Int) (m : List Bool) (clean : Bool) (seen : List Cmd) (n : Nat) (blk : Int) (w : World) (h : JQ w a Bn p s m clean seen n) (hb : I64 blk) :
    Calls Try.prog 12 #[.pointer (some ⟨a.q, 0, none⟩), .int .i64 blk] w fun e w' => e = .returned (.tuple #[.int .i64 (nxT (Bn : Int) p m clean seen blk), .int .i64 (nxE (Bn : Int) blk)]) ∧ Below w.heap.size w w' := by
  obtain ⟨J, hJ, hI⟩ := h
  have hlf : J.fl.length = Bn := by rw [hI.lf, Int.toNat_natCast]
  have hlt : J.tp.length = Bn := by rw [hI.lt, Int.toNat_natCast]
  obtain ⟨c0, c1, c3, c4, c5, c6, c7⟩ := cellsJ hJ
  by_cases h1 : blk < 0
  · have hx := nx_out (B := (Bn : Int)) (p := p) (m := m) (clean := clean) (seen := seen) (blk := blk) (.inl h1)
    rw [hx.1, hx.2]
    clear hx hI hJ hlf hlt
    go_enter Try.func12, Try.ntmps12
    go_wp2
    go_ret2
    exact ⟨rfl, Below.refl _ _⟩
  by_cases h2 : (Bn : Int) ≤ blk
  · have hx := nx_out (B := (Bn : Int)) (p := p) (m := m) (clean := clean) (seen := seen) (blk := blk) (.inr h2)
    rw [hx.1, hx.2]
    clear hx hI hJ hlf hlt
    go_enter Try.func12, Try.ntmps12
    go_wp2
    go_ret2
    exact ⟨rfl, Below.refl _ _⟩
  have hma := hI.ma blk (by omega) (by omega)
  have hls := hI.ls blk (by omega) (by omega)
  have hlk := hJ.ma.look hb
  by_cases hm : J.ma blk = 0
  · have hx := nx_un (B := (Bn : Int)) (p := p) (m := m) (clean := clean) (seen := seen) (blk := blk) (by omega) (hma.1 hm)
    rw [hx.1, hx.2, ← hls]
    rw [hm] at hlk
    obtain ⟨kb, hkb⟩ : ∃ kb : Nat, blk = kb := ⟨blk.toNat, by omega⟩
    have hl := least_any a Bn (Bn : Int) p s J n kb w hJ (by omega) hlf hlt
    rw [← hkb] at hl
    have HL := Lib.hid hl
    generalize lsP J blk = lv at *
    clear hx hI hJ hlf hlt hma hls hl hkb hm
    go_enter Try.func12, Try.ntmps12
    go_wp2_with fail
    with_reducible refine HL.out.mono ?_
    rintro e w' ⟨rfl, nq, rfl⟩
    go_wp2
    go_ret2
    exact ⟨rfl, bel_drewN (Below.refl _ _) nq⟩
  · have hmk : mkR m seen blk = true := by
      cases h3 : mkR m seen blk with
      | true => rfl
      | false => exact absurd (hma.2 h3) hm
    have hx := nx_mk (B := (Bn : Int)) (p := p) (m := m) (clean := clean) (seen := seen) (blk := blk) (by omega) hmk
    rw [hx.1, hx.2]
    generalize J.ma blk = mv at *
    have hmb : (mv == 0) = false := by simpa using hm
    clear hx hI hJ hlf hlt hma hls hmk
    go_enter Try.func12, Try.ntmps12
    go_wp2
    go_ret2
    exact ⟨rfl, Below.refl _ _⟩
set_option maxRecDepth 100000 in
set_option maxHeartbeats 3200000 in
theorem rNext_any (q : Nat) (b p s : Int) (A : Option Addr) (n ca : Nat) (clean : Bool) (v : Value) (m : List Bool) (seen : List Cmd) (blk : Int) (w : World) (h : RJ w q b p s A n ca clean v seen) (hp : p ≤ 256) (hm2 : seen.length ≤ 4398046511104) (hm : Rd w A (bls m)) (hml : m.length = n) (hnb : (n : Int) = b) :
    Calls Try.prog 13 #[.pointer (some ⟨q, 0, none⟩), .int .i64 blk] w fun e w' => e = .returned (.tuple #[.int .i64 (nxT b p m clean seen blk), .int .i64 (nxE b blk)]) ∧ Below w.heap.size w w' := by
  obtain ⟨V, cN, sp, rfl, hst, ho, hne, hok⟩ := h
  obtain ⟨V', cN', hv, _, hs⟩ := ho.rd
  obtain ⟨rfl, _, rfl⟩ := Value.slice.inj hv
  obtain ⟨c0, c1, c3, c4, c5⟩ := cellsR hst
  by_cases h1 : blk < 0
  · have hx := nx_out (B := b) (p := p) (m := m) (clean := clean) (seen := seen) (blk := blk) (.inl h1)
    rw [hx.1, hx.2]
    clear hx hst ho hok hs hm
    go_enter Try.func13, Try.ntmps13
    go_wp2
    go_ret2
    exact ⟨rfl, Below.refl _ _⟩
  by_cases h2 : b ≤ blk
  · have hx := nx_out (B := b) (p := p) (m := m) (clean := clean) (seen := seen) (blk := blk) (.inr h2)
    rw [hx.1, hx.2]
    clear hx hst ho hok hs hm
    go_enter Try.func13, Try.ntmps13
    go_wp2
    go_ret2
    exact ⟨rfl, Below.refl _ _⟩
  obtain ⟨kb, rfl⟩ : ∃ kb : Nat, blk = kb := ⟨blk.toNat, by omega⟩
  have hmk := marked_any q b p s A n ca clean V seen.length cN m seen kb w hst hs rfl hm hml (by omega) (by omega)
  have hnx := next_any q b p s A n ca clean V seen.length cN seen (kb : Int) w hst hs rfl hok hp (by omega)
  cases hM : mkR m seen (kb : Int) with
  | true =>
    have hx := nx_mk (B := b) (p := p) (m := m) (clean := clean) (seen := seen) (blk := (kb : Int)) (by omega) hM
    rw [hx.1, hx.2]
    rw [hM] at hmk
    have HM := Lib.hid hmk
    clear hx hst ho hok hs hm hM hmk hnx hml hnb
    go_enter Try.func13, Try.ntmps13
    go_wp2_with fail
    with_reducible refine HM.out.mono ?_
    rintro e w' ⟨rfl, rfl⟩
    go_wp2
    go_ret2
    exact ⟨rfl, Below.refl _ _⟩
  | false =>
    have hx := nx_un (B := b) (p := p) (m := m) (clean := clean) (seen := seen) (blk := (kb : Int)) (by omega) hM
    rw [hx.1, hx.2]
    rw [hM] at hmk
    have HM := Lib.hid hmk
    have HN := Lib.hid hnx
    generalize nxR p clean seen (kb : Int) = xv at *
    clear hx hst ho hok hs hm hM hmk hnx hml hnb
    go_enter Try.func13, Try.ntmps13
    go_wp2_with fail
    with_reducible refine HM.out.mono ?_
    rintro e w' ⟨rfl, rfl⟩
    go_wp2_with fail
    with_reducible refine HN.out.mono ?_
    rintro e w' ⟨rfl, b2⟩
    go_wp2
    go_ret2
    exact ⟨rfl, b2⟩
set_option maxRecDepth 100000 in
set_option maxHeartbeats 3200000 in
theorem sameInts_any (A0 A1 : Option Addr) (n c0 c1 : Nat) (l : List Int) (w : World) (hl : l.length = n) (h0 : Rd w A0 (iv l)) (h1 : Rd w A1 (iv l)) (hn : n ≤ 1048576) :
    Calls Try.prog 16 #[.slice A0 n c0, .slice A1 n c1] w fun e w' => e = .returned (.bool true) ∧ Below w.heap.size w w' := by
  have HL := Lib.hid hl
  clear hl
  go_enter Try.func16, Try.ntmps16
  go_wp2
  go_loopw [5] (fun i wr => ∃ k m : Nat, k ≤ n ∧ i = .int .i64 k ∧ wr = w.drewN m) (fun i _ => n - (intJ i))
  case atStart => exact ⟨0, 0, by omega, rfl, rfl⟩
  case round =>
    obtain ⟨k, m, hk, rfl, rfl⟩ := hrel
    have hll := HL.out
    by_cases hlt : k < n
    · obtain ⟨ad, rfl, hc⟩ := h0.at_ (k := k) (iv_at l k (by omega))
      obtain ⟨ad1, rfl, hc1⟩ := h1.at_ (k := k) (iv_at l k (by omega))
      have hlti : (k : Int) < (n : Int) := by omega
      generalize l.getD k 0 = x at hc hc1
      clear hll
      go_wp2
      go_quiet (fail)
      go_wp2
      refine ⟨⟨k + 1, _, by omega, by go_num, rfl⟩, ?_⟩
      simp [intJ]
      omega
    · obtain rfl : k = n := by omega
      clear hll
      go_wp2
      go_ret
      exact ⟨rfl, bel_drewN (Below.refl _ _) m⟩
end Go.Proofs.Ytagfcndpblekkaa
