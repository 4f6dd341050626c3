/- Both judges in memory, side by side; each call's contract in these words. -/
import Derived.Test.YtagfcndpblekkaaJg3
namespace Go.Proofs.Ytagfcndpblekkaa
open Go.RowKit Go.Maps
set_option linter.unusedVariables false
set_option linter.unusedSimpArgs false
/-- Where the two judges lie: nothing of them lies in the other. -/
structure SeesC (w w6 : World) (a : JA) (q gm n : Nat) (p : Int) (m : List Bool) : Prop where
  ow : ∀ k, a.own k → w.heap.size ≤ k ∧ k ≠ q ∧ k ≠ gm ∧ k < w6.heap.size
  q0 : w.heap.size ≤ q
  g0 : w.heap.size ≤ gm
  qg : q ≠ gm
  q6 : q < w6.heap.size
  g6 : gm < w6.heap.size
  p0 : 0 ≤ p
  p6 : p ≤ 256
  ml : m.length = n
  n8 : 8 ≤ n
  n4 : n ≤ 4096
/-- The two judges, as far as they have seen. -/
structure SeesS (w w6 : World) (a : JA) (q gm cm n : Nat) (p s : Int) (m : List Bool) (clean : Bool) (sp0 : List Value) (wr : World) (v : Value) (s1 s2 : List Cmd) (k : Nat) : Prop where
  jq : JQ wr a n p s m clean s1 k
  rj : RJ wr q (n : Int) p s (some ⟨gm, 0, none⟩) n cm clean v s2
  bm : Blk wr gm 4 (bls m ++ sp0)
  bb : Below w.heap.size w wr
  fr : ∀ j, v.ownBlock = some j → w6.heap.size ≤ j
  sz : w6.heap.size ≤ wr.heap.size
section
variable {w w6 : World} {a : JA} {q gm cm n : Nat} {p s : Int} {m : List Bool} {clean : Bool} {sp0 : List Value} {wr w4 : World} {v : Value} {s1 s2 : List Cmd} {k : Nat}
theorem SeesS.frm {ex : Nat → Prop} (h : SeesS w w6 a q gm cm n p s m clean sp0 wr v s1 s2 k) (hc : SeesC w w6 a q gm n p m) (hf : Frm ex wr w4) (hx : ∀ j, ex j → wr.heap.size ≤ j) : SeesS w w6 a q gm cm n p s m clean sp0 w4 v s1 s2 k := by
  obtain ⟨z1, z2⟩ := h.rj.lt
  refine ⟨h.jq.frm hf (fun j hj he => ?_), h.rj.frm hf (fun he => ?_) (fun j hj he => ?_), h.bm.frm hf (fun he => ?_), below_frm h.bb h.bb.size hf (fun j hj => Nat.le_trans h.bb.size (hx j hj)), h.fr, Nat.le_trans h.sz hf.size⟩
  · have := hx j he; have := h.jq.lt j hj; omega
  · have := hx _ he; omega
  · have := hx _ he; have := z2 j hj; omega
  · have := hx _ he; have := h.bm.lt; omega
theorem SeesS.bel (h : SeesS w w6 a q gm cm n p s m clean sp0 wr v s1 s2 k) (hc : SeesC w w6 a q gm n p m) (hb : Below wr.heap.size wr w4) : SeesS w w6 a q gm cm n p s m clean sp0 w4 v s1 s2 k := h.frm hc (ex := fun _ => False) (Frm.of_below hb) (fun _ h => h.elim)
theorem SeesS.rd (h : SeesS w w6 a q gm cm n p s m clean sp0 wr v s1 s2 k) : Rd wr (some ⟨gm, 0, none⟩) (bls m) := rd_left (Rd.of_blk (sp := []) (by rw [List.append_nil]; exact h.bm))
theorem sees_See (hc : SeesC w w6 a q gm n p m) (c : Cmd) (hci : CmdI c) (hn : k < maxLen) (hs : s1.length ≤ 4611686018427387904) (h : SeesS w w6 a q gm cm n p s m clean sp0 wr v s1 s2 k) :
    Calls Try.prog 10 #[.pointer (some ⟨a.q, 0, none⟩), .agg #[.int .i64 c.k, .int .i64 c.b, .int .i64 c.p, .int .i64 c.s]] wr fun e w' => e = .returned (.bool (kpR (n : Int) p m clean s1 c)) ∧ SeesS w w6 a q gm cm n p s m clean sp0 w' v (nextS (n : Int) p m clean s1 c) s2 (k + 1) := by
  refine (See_any a n p s m clean s1 k c wr h.jq hci hn hc.p0 hc.p6 hs).mono fun e w' ⟨h1, h2, hf⟩ => ⟨h1, h2, h.rj.frm hf (fun he => (hc.ow _ he).2.1 rfl) (fun j hj he => ?_), h.bm.frm hf (fun he => (hc.ow _ he).2.2.1 rfl), below_frm h.bb h.bb.size hf (fun j hj => (hc.ow j hj).1), h.fr, Nat.le_trans h.sz hf.size⟩
  have := h.fr j hj
  have := (hc.ow j he).2.2.2
  omega
theorem sees_rSee (hc : SeesC w w6 a q gm n p m) (c : Cmd) (hci : CmdI c) (hs : s2.length < 4398046511104) (h : SeesS w w6 a q gm cm n p s m clean sp0 wr v s1 s2 k) :
    Calls Try.prog 11 #[.pointer (some ⟨q, 0, none⟩), .agg #[.int .i64 c.k, .int .i64 c.b, .int .i64 c.p, .int .i64 c.s]] wr fun e w' => e = .returned (.bool (kpR (n : Int) p m clean s2 c)) ∧ ∃ v', SeesS w w6 a q gm cm n p s m clean sp0 w' v' s1 (nextS (n : Int) p m clean s2 c) k := by
  refine (rSee_any q (n : Int) p s (some ⟨gm, 0, none⟩) n cm clean v m s2 c wr h.rj hc.p0 hc.p6 hs h.rd hc.ml rfl hci).mono fun e w' ⟨h1, v', h2, hf, hv⟩ => ⟨h1, v', h.jq.frm hf (fun j hj he => ?_), h2, h.bm.frm hf (fun he => ?_), below_frm h.bb h.bb.size hf (fun j hj => ?_), fun j hj => ?_, Nat.le_trans h.sz hf.size⟩
  · rcases he with he | he
    · exact (hc.ow j hj).2.1 he
    · have := h.fr j he; have := (hc.ow j hj).2.2.2; omega
  · rcases he with he | he
    · exact hc.qg he.symm
    · have := h.fr _ he; have := hc.g6; omega
  · rcases hj with hj | hj
    · have := hc.q0; omega
    · have := h.fr j hj; have := hc.q6; have := hc.q0; omega
  · rcases hv with hv | hv
    · exact h.fr j (hv ▸ hj)
    · exact Nat.le_trans h.sz (hv j hj)
theorem sees_Next (hc : SeesC w w6 a q gm n p m) (blk : Int) (hb : I64 blk) (h : SeesS w w6 a q gm cm n p s m clean sp0 wr v s1 s2 k) :
    Calls Try.prog 12 #[.pointer (some ⟨a.q, 0, none⟩), .int .i64 blk] wr fun e w' => e = .returned (.tuple #[.int .i64 (nxT (n : Int) p m clean s1 blk), .int .i64 (nxE (n : Int) blk)]) ∧ SeesS w w6 a q gm cm n p s m clean sp0 w' v s1 s2 k :=
  (Next_any a n p s m clean s1 k blk wr h.jq hb).mono fun e w' ⟨h1, h2⟩ => ⟨h1, h.bel hc h2⟩
theorem sees_rNext (hc : SeesC w w6 a q gm n p m) (blk : Int) (hs : s2.length ≤ 4398046511104) (h : SeesS w w6 a q gm cm n p s m clean sp0 wr v s1 s2 k) :
    Calls Try.prog 13 #[.pointer (some ⟨q, 0, none⟩), .int .i64 blk] wr fun e w' => e = .returned (.tuple #[.int .i64 (nxT (n : Int) p m clean s2 blk), .int .i64 (nxE (n : Int) blk)]) ∧ SeesS w w6 a q gm cm n p s m clean sp0 w' v s1 s2 k :=
  (rNext_any q (n : Int) p s (some ⟨gm, 0, none⟩) n cm clean v m s2 blk wr h.rj hc.p6 hs h.rd hc.ml rfl).mono fun e w' ⟨h1, h2⟩ => ⟨h1, h.bel hc h2⟩
/-- A list of whole numbers that was just made. -/
structure WearR (w0 wr : World) (g c n : Nat) (L : List Int) (sp : List Value) : Prop where
  bk : Blk wr g 3 (iv L ++ sp)
  ln : L.length = n
  cn : c ≤ n + sp.length
  nc : n ≤ c
  cm : c ≤ maxLen
  gs : w0.heap.size ≤ g
theorem WearR.bel {w0 wr w4 : World} {g c n : Nat} {L : List Int} {sp : List Value} (h : WearR w0 wr g c n L sp) (hb : Below wr.heap.size wr w4) : WearR w0 w4 g c n L sp := ⟨h.bk.bel hb, h.ln, h.cn, h.nc, h.cm, h.gs⟩
theorem WearR.owx {w0 wr : World} {g c n : Nat} {L : List Int} {sp : List Value} (h : WearR w0 wr g c n L sp) : Owx wr 3 1 (.slice (some ⟨g, 0, none⟩) n c) n (iv L) sp :=
  .inr ⟨g, c, rfl, h.bk, by rw [iv_len, h.ln, Nat.mul_one], by rw [iv_len, h.ln, Nat.mul_one]; exact h.cn, h.nc, h.cm⟩
theorem WearR.rd {w0 wr : World} {g c n : Nat} {L : List Int} {sp : List Value} (h : WearR w0 wr g c n L sp) : Rd wr (some ⟨g, 0, none⟩) (iv L) := rd_left (Rd.of_blk (sp := []) (by rw [List.append_nil]; exact h.bk))
theorem sees_Wear (hc : SeesC w w6 a q gm n p m) (h : SeesS w w6 a q gm cm n p s m clean sp0 wr v s1 s2 k) :
    Calls Try.prog 14 #[.pointer (some ⟨a.q, 0, none⟩)] wr fun e w' => ∃ g c sp, e = .returned (.slice (some ⟨g, 0, none⟩) n c) ∧ WearR wr w' g c n (wrL n s1) sp ∧ SeesS w w6 a q gm cm n p s m clean sp0 w' v s1 s2 k ∧ Below wr.heap.size wr w' := by
  refine (Wear_any a n p s m clean s1 k wr h.jq hc.n4 (by have := hc.n8; omega)).mono fun e w' ⟨g, c, sp, h1, h2, h3, h4⟩ => ⟨g, c, sp, h1, ?_, h.bel hc h4, h4⟩
  obtain ⟨g', cap, he, hb, hl, hcp, hn, hm⟩ := h2.blk (by have := hc.n8; omega)
  cases he
  exact ⟨hb, wrL_len _ _, by rw [iv_len, wrL_len, Nat.mul_one] at hcp; exact hcp, hn, hm, h3⟩
theorem sees_rWear (hc : SeesC w w6 a q gm n p m) (hs : s2.length ≤ 4398046511104) (hsb : SeenB n s2) (h : SeesS w w6 a q gm cm n p s m clean sp0 wr v s1 s2 k) :
    Calls Try.prog 15 #[.pointer (some ⟨q, 0, none⟩)] wr fun e w' => ∃ g, e = .returned (.slice (some ⟨g, 0, none⟩) n n) ∧ WearR wr w' g n n (wrL n s2) [] ∧ SeesS w w6 a q gm cm n p s m clean sp0 w' v s1 s2 k ∧ Below wr.heap.size wr w' := by
  refine (rWear_any q (n : Int) p s (some ⟨gm, 0, none⟩) n cm clean v s2 wr h.rj hs rfl hsb hc.n4).mono fun e w' ⟨g, h1, h2, h3, h4⟩ => ⟨g, h1, ⟨by rw [List.append_nil]; exact h2, wrL_len _ _, by simp, Nat.le_refl _, by have := hc.n4; unfold maxLen; omega, h3⟩, h.bel hc h4, h4⟩
end
theorem seenB_next {n : Nat} {p : Int} {m : List Bool} {clean : Bool} {seen : List Cmd} {c : Cmd} (h : SeenB n seen) : SeenB n (nextS (n : Int) p m clean seen c) := by
  unfold nextS
  split
  · rename_i hk
    have hK := of_decide_eq_true hk
    intro j hj
    rw [List.length_append, List.length_singleton] at hj
    rw [List.getD_eq_getElem?_getD]
    by_cases e : j < seen.length
    · rw [List.getElem?_append_left e, ← List.getD_eq_getElem?_getD]
      exact h j e
    · have : j = seen.length := by omega
      subst this
      simp
      exact hK.2.1
  · exact h
end Go.Proofs.Ytagfcndpblekkaa
