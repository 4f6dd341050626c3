/- The walk of the document's See. -/
import Derived.Test.YtagfcndpblekkaaJz
import Derived.Test.YtagfcndpblekkaaOwn
namespace Go.Proofs.Ytagfcndpblekkaa
open Go.RowKit Go.Maps
set_option linter.unusedVariables false
set_option linter.unusedSimpArgs false
theorem below_frm2 {w w1 w2 : World} {ex : Nat → Prop} (h : Below w.heap.size w w1) (hf : Frm ex w1 w2) : Frm ex w w2 := (Frm.of_below h).trans hf
/-- The document's judge that has seen these commands; v: its list. -/
def RJ (w : World) (q : Nat) (b p s : Int) (A : Option Addr) (n ca : Nat) (clean : Bool) (v : Value) (seen : List Cmd) : Prop :=
  ∃ V cN sp, v = .slice V seen.length cN ∧ Blk w q 79 (rfV b p s A n ca clean V seen.length cN) ∧ Owx w 33 4 v seen.length (cmdV seen) sp ∧ v.ownBlock ≠ some q ∧ SeenOk p seen
theorem RJ.frm {w w' : World} {q : Nat} {b p s : Int} {A : Option Addr} {n ca : Nat} {clean : Bool} {v : Value} {seen : List Cmd} {ex : Nat → Prop} (h : RJ w q b p s A n ca clean v seen) (hf : Frm ex w w') (hq : ¬ ex q) (hv : ∀ k, v.ownBlock = some k → ¬ ex k) : RJ w' q b p s A n ca clean v seen := by
  obtain ⟨V, cN, sp, e, h1, h2, h3, h4⟩ := h
  exact ⟨V, cN, sp, e, h1.frm hf hq, h2.frm hf hv, h3, h4⟩
theorem RJ.bel {w w' : World} {q : Nat} {b p s : Int} {A : Option Addr} {n ca : Nat} {clean : Bool} {v : Value} {seen : List Cmd} (h : RJ w q b p s A n ca clean v seen) (hb : Below w.heap.size w w') : RJ w' q b p s A n ca clean v seen := h.frm (ex := fun _ => False) (Frm.of_below hb) id (fun _ _ => id)
theorem RJ.lt {w : World} {q : Nat} {b p s : Int} {A : Option Addr} {n ca : Nat} {clean : Bool} {v : Value} {seen : List Cmd} (h : RJ w q b p s A n ca clean v seen) : q < w.heap.size ∧ ∀ k, v.ownBlock = some k → k < w.heap.size := by
  obtain ⟨V, cN, sp, e, h1, h2, h3, h4⟩ := h
  exact ⟨h1.lt, h2.lt⟩
theorem seenOk_snoc {p : Int} {seen : List Cmd} {c : Cmd} (h : SeenOk p seen) (hc : c.k = 1 → 0 ≤ c.p ∧ c.p < p) : SeenOk p (seen ++ [c]) := by
  intro k hk hk1
  rw [List.length_append, List.length_singleton] at hk
  rw [List.getD_eq_getElem?_getD] at hk1 ⊢
  by_cases e : k < seen.length
  · rw [List.getElem?_append_left e, ← List.getD_eq_getElem?_getD] at hk1 ⊢
    exact h k e hk1
  · have : k = seen.length := by omega
    subst this
    simp at hk1 ⊢
    exact hc hk1
theorem nx_nonneg {p : Int} {clean : Bool} {b : Int} (hp : 0 ≤ p) : ∀ (k : Nat) (seen : List Cmd), k ≤ seen.length → SeenOk p seen → 0 ≤ nxR p clean (seen.take k) b := by
  intro k
  induction k with
  | zero => intro seen _ _; simp only [List.take_zero]; unfold nxR nx0; simp only [List.foldl_nil]; split <;> omega
  | succ k ih =>
    intro seen hk hs
    rw [nx_take _ _ _ _ _ (by omega)]
    have := ih seen (by omega) hs
    have h1 := hs k (by omega)
    unfold nxS
    split
    · split
      · split <;> omega
      · split
        · rename_i h; have := h1 h; omega
        · exact this
    · exact this
theorem cmdV_snoc (l : List Cmd) (c : Cmd) : cmdV (l ++ [c]) = cmdV l ++ cmdC c := by unfold cmdV; rw [List.flatMap_append]; simp
theorem info33 : (Try.prog.info? 33).map (fun i => (i.zero, i.size, i.bytes)) = some (some (.agg #[.int .i64 0, .int .i64 0, .int .i64 0, .int .i64 0]), 4, 32) := by kernel_rfl
theorem one_cmdC (c : Cmd) : ∀ u ∈ cmdC c, u.oneCell' = true := by
  intro u hu
  simp only [cmdC, List.mem_cons, List.not_mem_nil, or_false] at hu
  rcases hu with rfl | rfl | rfl | rfl <;> rfl
theorem cells4 {w : World} {G : Nat} {t : TypeId} {c : Cmd} (h : Blk w G t (cmdC c)) : w.cell? ⟨G, 0, none⟩ = some (.int .i64 c.k) ∧ w.cell? ⟨G, 1, none⟩ = some (.int .i64 c.b) ∧ w.cell? ⟨G, 2, none⟩ = some (.int .i64 c.p) ∧ w.cell? ⟨G, 3, none⟩ = some (.int .i64 c.s) := ⟨h.cell 0, h.cell 1, h.cell 2, h.cell 3⟩
theorem see_end {w w2 wa w5 : World} {q : Nat} {b p s : Int} {A : Option Addr} {n ca : Nat} {clean : Bool} {v : Value} {seen : List Cmd} {c : Cmd} {V A1 : Option Addr} {N cN c1 : Nat} {sp1 : List Value} (hB : Below w.heap.size w w2) (hA : Below w2.heap.size w2 wa) (hv : v = .slice V seen.length cN) (hN : N = seen.length) (y : Lay wa.drew w5 (.slice V N cN) (.slice A1 (N + 1) c1)) (o : Owx w5 33 4 (.slice A1 (N + 1) c1) (N + 1) (cmdV seen ++ cmdC c) sp1) (kq : Blk w5 q 79 (rfV b p s A n ca clean V N cN)) (hne : (Value.slice V N cN).ownBlock ≠ some q) (hq : q < wa.heap.size) (hok : SeenOk p (seen ++ [c])) :
    ∃ v', RJ (w5.setCell ⟨q, 5, none⟩ (.slice A1 (N + 1) c1)) q b p s A n ca clean v' (seen ++ [c]) ∧ Frm (fun k => k = q ∨ v.ownBlock = some k) w (w5.setCell ⟨q, 5, none⟩ (.slice A1 (N + 1) c1)) ∧ (v'.ownBlock = v.ownBlock ∨ ∀ k, v'.ownBlock = some k → w.heap.size ≤ k) := by
  subst hN
  subst hv
  have hb := hB.trans (hA.mono hB.size)
  have eL : (seen ++ [c]).length = seen.length + 1 := by simp
  have hn' : (Value.slice A1 (seen.length + 1) c1).ownBlock ≠ some q := by
    rcases y.at_ with h | h
    · rw [h]; exact hne
    · rw [h]
      intro h2
      have h3 : wa.heap.size = q := Option.some.inj h2
      omega
  refine ⟨.slice A1 (seen.length + 1) c1, ⟨A1, c1, sp1, by rw [eL], ?_, ?_, hn', hok⟩, ?_, ?_⟩
  · rw [eL]; exact kq.set_ 5 _
  · rw [eL, cmdV_snoc]
    exact o.frm ((Frm.refl (fun k => k = q) w5).setCell (p := ⟨q, 5, none⟩) (fun _ => rfl) _) (fun k hk e => hn' (by rw [hk, e]))
  · exact (((Frm.of_below hb).drew).trans (y.frm.mono (fun k _ hk => .inr hk))).setCell (p := ⟨q, 5, none⟩) (fun _ => .inl rfl) _
  · rcases y.at_ with h | h
    · exact .inl h
    · refine .inr fun k hk => ?_
      have h3 : wa.heap.size = k := Option.some.inj (h.symm.trans hk)
      have := hb.size
      omega
set_option maxRecDepth 100000 in
set_option maxHeartbeats 6400000 in
theorem rSee_any (q : Nat) (b p s : Int) (A : Option Addr) (n ca : Nat) (clean : Bool) (v : Value) (m : List Bool) (seen : List Cmd) (c : Cmd) (w : World) (h : RJ w q b p s A n ca clean v seen) (hp0 : 0 ≤ p) (hp : p ≤ 256) (hm2 : seen.length < 4398046511104) (hm : Rd w A (bls m)) (hml : m.length = n) (hnb : (n : Int) = b) (hc : CmdI c) :
    Calls Try.prog 11 #[.pointer (some ⟨q, 0, none⟩), .agg #[.int .i64 c.k, .int .i64 c.b, .int .i64 c.p, .int .i64 c.s]] w fun e w' => e = .returned (.bool (kpR b p m clean seen c)) ∧ ∃ v', RJ w' q b p s A n ca clean v' (nextS b p m clean seen c) ∧ Frm (fun k => k = q ∨ v.ownBlock = some k) w w' ∧ (v'.ownBlock = v.ownBlock ∨ ∀ k, v'.ownBlock = some k → w.heap.size ≤ k) := by
  have hsn : KpR b p m clean seen c → SeenOk p (seen ++ [c]) := fun hk => by
    obtain ⟨V, cN, sp, e, h1, h2, h3, h4⟩ := h
    refine seenOk_snoc h4 fun hk1 => ?_
    have h5 := hk.2.2.2.2 hk1
    have h6 := nx_nonneg (clean := clean) (b := c.b) hp0 seen.length seen (Nat.le_refl _) h4
    rw [List.take_length] at h6
    omega
  obtain ⟨w1, hw1⟩ : ∃ x, x = w.alloc (.cells #[.int .i64 c.k, .int .i64 c.b, .int .i64 c.p, .int .i64 c.s] 33) := ⟨_, rfl⟩
  have b1 : Below w.heap.size w w1 := by rw [hw1]; exact (Below.refl _ w).alloc (Nat.le_refl _) _
  have kc : Blk w1 w.heap.size 33 [.int .i64 c.k, .int .i64 c.b, .int .i64 c.p, .int .i64 c.s] := by rw [hw1]; exact Blk.new w _ [.int .i64 c.k, .int .i64 c.b, .int .i64 c.p, .int .i64 c.s]
  have h1 := h.bel b1
  have hlt := h.lt
  have hK : Calls Try.prog 37 #[.pointer (some ⟨q, 0, none⟩), .agg #[.int .i64 c.k, .int .i64 c.b, .int .i64 c.p, .int .i64 c.s]] w1 fun e w' => e = .returned (.bool (kpR b p m clean seen c)) ∧ Below w1.heap.size w1 w' := by
    obtain ⟨V, cN, sp, e, r1, r2, r3, r4⟩ := h1
    obtain ⟨A', cap, e', hn', hr'⟩ := r2.rd
    rw [e] at e'
    cases e'
    exact Keeps_any q b p s A n ca clean V seen.length cN m seen c w1 r1 hr' rfl r4 hp (by omega) (hm.below b1) hml hnb hc
  obtain ⟨G, hG⟩ : ∃ G, G = w.heap.size := ⟨_, rfl⟩
  rw [← hG] at kc
  have HG := Lib.hid hG
  have HLT := Lib.hid hlt
  have k0 : w1.cell? ⟨G, 0, none⟩ = some (.int .i64 c.k) := kc.cell 0
  have k1 : w1.cell? ⟨G, 1, none⟩ = some (.int .i64 c.b) := kc.cell 1
  have k2 : w1.cell? ⟨G, 2, none⟩ = some (.int .i64 c.p) := kc.cell 2
  have k3 : w1.cell? ⟨G, 3, none⟩ = some (.int .i64 c.s) := kc.cell 3
  obtain ⟨S', hS'⟩ : ∃ x, x = nextS b p m clean seen c := ⟨_, rfl⟩
  rw [← hS']
  have hn0 : kpR b p m clean seen c = false → S' = seen := fun e => by rw [hS']; unfold nextS; rw [e]; rfl
  have hn1 : kpR b p m clean seen c = true → S' = seen ++ [c] ∧ SeenOk p (seen ++ [c]) := fun e => ⟨by rw [hS']; unfold nextS; rw [e]; rfl, hsn (of_decide_eq_true e)⟩
  have HN0 := Lib.hid hn0
  have HN1 := Lib.hid hn1
  have HM2 := Lib.hid hm2
  generalize kpR b p m clean seen c = KB at *
  clear h hS' hsn hn0 hn1 hm2 hm hml hnb hlt
  cases KB with
  | false =>
    have e := HN0.out rfl
    subst e
    go_enter Try.func11, Try.ntmps11
    go_wp2_with fail
    rw [← hw1, ← hG]
    clear hw1 hG
    with_reducible refine hK.mono ?_
    rintro e w2 ⟨rfl, b2⟩
    have h2 := h1.bel b2
    clear hK h1
    go_wp2
    go_ret
    exact ⟨rfl, v, h2, (Frm.of_below b1).trans (Frm.of_below b2), .inl rfl⟩
  | true =>
    obtain ⟨e, hok⟩ := HN1.out rfl
    subst e
    go_enter Try.func11, Try.ntmps11
    go_wp2_with fail
    rw [← hw1, ← hG]
    clear hw1 hG
    with_reducible refine hK.mono ?_
    rintro e w2 ⟨rfl, b2⟩
    have h2 := h1.bel b2
    replace kc := kc.frm (ex := fun _ => False) (Frm.of_below b2) id
    have bb := b1.trans (b2.mono b1.size)
    clear hK h1 k0 k1 k2 k3 b1 b2
    obtain ⟨V, cN, sp, hv, r1, r2, r3, r4⟩ := h2
    rw [hv] at r2 r3
    have HV := Lib.hid hv
    clear hv
    obtain ⟨c0, c1, c3, c4, c5⟩ := cellsR r1
    have k0 : w2.cell? ⟨G, 0, none⟩ = some (.int .i64 c.k) := kc.cell 0
    have k1 : w2.cell? ⟨G, 1, none⟩ = some (.int .i64 c.b) := kc.cell 1
    have k2 : w2.cell? ⟨G, 2, none⟩ = some (.int .i64 c.p) := kc.cell 2
    have k3 : w2.cell? ⟨G, 3, none⟩ = some (.int .i64 c.s) := kc.cell 3
    obtain ⟨N, hN⟩ : ∃ N, N = seen.length := ⟨_, rfl⟩
    rw [← hN] at c5 r1 r2 r3
    have HNN := Lib.hid hN
    have HB := Lib.hid bb
    clear hN c0 c1 c3 c4 bb
    go_upto_region 3 with fail
    have hGl := kc.lt
    have k4 := Lib.hid (show (∀ o, Blk (w2.alloc o).drew G 33 (cmdC c)) ∧ Blk w2.drew G 33 (cmdC c) ∧ Blk w2 G 33 (cmdC c) ∧ (∀ o, (w2.alloc o).drew.cell? ⟨q, 5, none⟩ = some (.slice V N cN)) from ⟨fun o => (kc.alloc o).drew, kc.drew, kc, fun o => (r1.alloc o).drew.cell 5⟩)
    obtain ⟨wa, hwa⟩ : ∃ x, x = w2.alloc (.cells #[.int .i64 c.k, .int .i64 c.b, .int .i64 c.p, .int .i64 c.s] 33) := ⟨_, rfl⟩
    have ba : Below w2.heap.size w2 wa := by rw [hwa]; exact (Below.refl _ w2).alloc (Nat.le_refl _) _
    have ka : Blk wa w2.heap.size 33 (cmdC c) := by rw [hwa]; exact Blk.new w2 _ (cmdC c)
    have oa : Owx wa.drew 33 4 (.slice V N cN) N (cmdV seen) sp := (r2.bel ba).drew
    have ra : Rd wa.drew (some ⟨w2.heap.size, 0, none⟩) (cmdC c) := Rd.of_blk (sp := []) (by rw [List.append_nil]; exact ka.drew)
    have HA := Lib.hid (show Blk wa.drew G 33 (cmdC c) ∧ Blk wa.drew q 79 (rfV b p s A n ca clean V N cN) ∧ Below w2.heap.size w2 wa from ⟨(kc.bel ba).drew, (r1.bel ba).drew, ba⟩)
    clear ba ka
    rw [hwa] at oa ra HA
    refine wp_region_held_drew (S := fun wx => wx.cell? ⟨G, 0, none⟩ = some (.int .i64 c.k) ∧ wx.cell? ⟨G, 1, none⟩ = some (.int .i64 c.b) ∧ wx.cell? ⟨G, 2, none⟩ = some (.int .i64 c.p) ∧ wx.cell? ⟨G, 3, none⟩ = some (.int .i64 c.s)) (by kernel_rfl) (cells4 k4.out.2.1) (fun hHeld => ?_)
    refine wpAnyH_take (i := 0) (oi := _) (v := .pointer (some ⟨q, 0, none⟩)) rfl (by kernel_rfl) (by kernel_rfl) (by kernel_rfl) (fun _ _ _ h => h) (.inl ⟨by rfl, fun wx hSw => ?_⟩) hHeld ?_
    · obtain ⟨s0, s1, s2, s3⟩ := hSw
      first | (go_simp; done) | (go_simp; rfl)
    simp only [List.getElem_toArray, List.getElem_cons_succ, List.getElem_cons_zero, Act.put, List.setIfInBounds_toArray, List.set_cons_zero, List.set_cons_succ]
    refine wpAnyH_take (i := 1) (oi := _) (v := .pointer (some ⟨q, 0, none⟩)) rfl (by kernel_rfl) (by kernel_rfl) (by kernel_rfl) (fun _ _ _ h => h) (.inl ⟨by rfl, fun wx hSw => ?_⟩) hHeld ?_
    · obtain ⟨s0, s1, s2, s3⟩ := hSw
      first | (go_simp; done) | (go_simp; rfl)
    simp only [List.getElem_toArray, List.getElem_cons_succ, List.getElem_cons_zero, Act.put, List.setIfInBounds_toArray, List.set_cons_zero, List.set_cons_succ]
    refine wpAnyH_take (i := 2) (oi := _) (v := .pointer (some ⟨q, 0, none⟩)) rfl (by kernel_rfl) (by kernel_rfl) (by kernel_rfl) (fun _ _ _ h => h) (.inl ⟨by rfl, fun wx hSw => ?_⟩) hHeld ?_
    · obtain ⟨s0, s1, s2, s3⟩ := hSw
      first | (go_simp; done) | (go_simp; rfl)
    simp only [List.getElem_toArray, List.getElem_cons_succ, List.getElem_cons_zero, Act.put, List.setIfInBounds_toArray, List.set_cons_zero, List.set_cons_succ]
    refine wpAnyH_take (i := 3) (oi := _) (v := .pointer (some ⟨q, 5, none⟩)) rfl (by kernel_rfl) (by kernel_rfl) (by kernel_rfl) (fun _ _ _ h => h) (.inl ⟨by rfl, fun wx hSw => ?_⟩) hHeld ?_
    · obtain ⟨s0, s1, s2, s3⟩ := hSw
      first | (go_simp; done) | (go_simp; rfl)
    simp only [List.getElem_toArray, List.getElem_cons_succ, List.getElem_cons_zero, Act.put, List.setIfInBounds_toArray, List.set_cons_zero, List.set_cons_succ]
    refine wpAnyH_take (i := 5) (oi := _) (v := .agg #[.int .i64 c.k, .int .i64 c.b, .int .i64 c.p, .int .i64 c.s]) rfl (by kernel_rfl) (by kernel_rfl) (by kernel_rfl) (fun _ _ _ h => h) (.inl ⟨by rfl, fun wx hSw => ?_⟩) hHeld ?_
    · obtain ⟨s0, s1, s2, s3⟩ := hSw
      first | (go_simp; done) | (go_simp; rfl)
    simp only [List.getElem_toArray, List.getElem_cons_succ, List.getElem_cons_zero, Act.put, List.setIfInBounds_toArray, List.set_cons_zero, List.set_cons_succ]
    refine wpAnyH_ready (rs := [4, 6]) (by kernel_rfl) (by simp) ?_
    refine AllReadyH.cons (o := _) rfl (fun K hK => ?_) (AllReadyH.cons (o := _) rfl (fun K hK => ?_) (AllReadyH.nil))
    try dsimp (config := { proj := false }) only [List.getElem_toArray, List.getElem_cons_succ, List.getElem_cons_zero]
    go_simp
    refine hK.out _ _ (cells4 k4.out.2.1) (fun hHeld => ?_)
    clear hK K
    try simp only [List.getElem_toArray, List.getElem_cons_succ, List.getElem_cons_zero, Act.put, List.setIfInBounds_toArray, List.set_cons_zero, List.set_cons_succ]
    refine wpAnyH_ready (rs := [6]) (by kernel_rfl) (by simp) ?_
    refine AllReadyH.cons (o := _) rfl (fun K hK => ?_) (AllReadyH.nil)
    dsimp (config := { proj := false }) only [List.getElem_toArray, List.getElem_cons_succ, List.getElem_cons_zero]
    go_simp
    refine hK.out _ _ (cells4 HA.out.1) (fun hHeld => ?_)
    clear hK K
    try simp only [List.getElem_toArray, List.getElem_cons_succ, List.getElem_cons_zero, Act.put, List.setIfInBounds_toArray, List.set_cons_zero, List.set_cons_succ]
    rotate_left
    have q5a := k4.out.2.2.2 (.cells #[.int .i64 c.k, .int .i64 c.b, .int .i64 c.p, .int .i64 c.s] 33)
    go_simp
    refine hK.out _ _ (cells4 HA.out.1) (fun hHeld => ?_)
    clear hK K
    try simp only [List.getElem_toArray, List.getElem_cons_succ, List.getElem_cons_zero, Act.put, List.setIfInBounds_toArray, List.set_cons_zero, List.set_cons_succ]
    refine wpAnyH_ready (rs := [4]) (by kernel_rfl) (by simp) ?_
    refine AllReadyH.cons (o := _) rfl (fun K hK => ?_) (AllReadyH.nil)
    dsimp (config := { proj := false }) only [List.getElem_toArray, List.getElem_cons_succ, List.getElem_cons_zero]
    go_simp
    refine hK.out _ _ (cells4 HA.out.1) (fun hHeld => ?_)
    clear hK K
    try simp only [List.getElem_toArray, List.getElem_cons_succ, List.getElem_cons_zero, Act.put, List.setIfInBounds_toArray, List.set_cons_zero, List.set_cons_succ]
    clear q5a
    all_goals
      refine wpAnyH_ready (rs := [7]) (by kernel_rfl) (by simp) ?_
      refine AllReadyH.cons (o := _) rfl (fun K hK => ?_) (AllReadyH.nil)
      dsimp (config := { proj := false }) only [List.getElem_toArray, List.getElem_cons_succ, List.getElem_cons_zero]
      refine step_appx _ (by rfl) (.tmp 13) (.tmp 15) 25 (by rfl) 33 _ 4 32 Try.underlying25 info33 rfl (by decide) (by rfl) oa (by rfl) (by rfl) ra (one_cmdC c) (by have := HNN.out; have := HM2.out; unfold maxLen; omega) (by have := HNN.out; have := HM2.out; omega) ?_
      intro v1 w5 sp1 o1 y1
      obtain ⟨A1, c1, rfl, _, _⟩ := o1.rd
      have hqv : ∀ k, (Value.slice V N cN).ownBlock = some k → k ≠ q := fun k hk e => r3 (by rw [hk, e])
      have kg5 : Blk w5 G 33 (cmdC c) := HA.out.1.frm y1.frm (fun hk => by
        have h1 := HLT.out.2 G (by rw [HV.out, ← HNN.out]; exact hk)
        rw [HG.out] at h1
        omega)
      have kq5 : Blk w5 q 79 (rfV b p s A n ca clean V N cN) := HA.out.2.1.frm y1.frm (fun hk => hqv q hk rfl)
      have q5 : w5.cell? ⟨q, 5, none⟩ = some (.slice V N cN) := kq5.cell 5
      have f5 := kq5.frozen 5
      have HY := Lib.hid y1
      have HO := Lib.hid o1
      have HKG := Lib.hid kg5
      have HKQ := Lib.hid kq5
      clear y1 o1 kg5 kq5
      refine hK.out _ _ (cells4 HKG.out) (fun hHeld => ?_)
      clear hK K
      try simp only [List.getElem_toArray, List.getElem_cons_succ, List.getElem_cons_zero, Act.put, List.setIfInBounds_toArray, List.set_cons_zero, List.set_cons_succ]
      refine wpAnyH_take (i := 8) (oi := _) (v := .pointer (some ⟨q, 0, none⟩)) rfl (by kernel_rfl) (by kernel_rfl) (by kernel_rfl) (fun _ _ _ h => h) (.inl ⟨by rfl, fun wx hSw => ?_⟩) hHeld ?_
      · obtain ⟨s0, s1, s2, s3⟩ := hSw
        first | (go_simp; done) | (go_simp; rfl)
      simp only [List.getElem_toArray, List.getElem_cons_succ, List.getElem_cons_zero, Act.put, List.setIfInBounds_toArray, List.set_cons_zero, List.set_cons_succ]
      refine wpAnyH_take (i := 9) (oi := _) (v := .pointer (some ⟨q, 5, none⟩)) rfl (by kernel_rfl) (by kernel_rfl) (by kernel_rfl) (fun _ _ _ h => h) (.inl ⟨by rfl, fun wx hSw => ?_⟩) hHeld ?_
      · obtain ⟨s0, s1, s2, s3⟩ := hSw
        first | (go_simp; done) | (go_simp; rfl)
      simp only [List.getElem_toArray, List.getElem_cons_succ, List.getElem_cons_zero, Act.put, List.setIfInBounds_toArray, List.set_cons_zero, List.set_cons_succ]
      refine wpAnyH_ready (rs := [10]) (by kernel_rfl) (by simp) ?_
      refine AllReadyH.cons (o := _) rfl (fun K hK => ?_) (AllReadyH.nil)
      dsimp (config := { proj := false }) only [List.getElem_toArray, List.getElem_cons_succ, List.getElem_cons_zero]
      go_simp
      have hn5 : q ≠ G := by have h1 := HLT.out.1; have h2 := HG.out; omega
      refine hK.out _ _ (cells4 ((HKG.out.frm ((Frm.refl (fun k => k = q) w5).setCell (p := ⟨q, 5, none⟩) (fun _ => rfl) _) (Ne.symm hn5)))) (fun hHeld => ?_)
      clear hK K
      try simp only [List.getElem_toArray, List.getElem_cons_succ, List.getElem_cons_zero, Act.put, List.setIfInBounds_toArray, List.set_cons_zero, List.set_cons_succ]
      refine wpAnyH_done (by kernel_rfl) ?_ _
      go_wp2
      go_ret
      exact ⟨rfl, see_end HB.out HA.out.2.2 HV.out HNN.out HY.out HO.out HKQ.out r3 (Nat.lt_of_lt_of_le HLT.out.1 (HB.out.trans (HA.out.2.2.mono HB.out.size)).size) hok⟩
end Go.Proofs.Ytagfcndpblekkaa
