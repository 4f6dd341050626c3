/- What writes do to a judge in memory. -/
import Derived.Test.YtagfcndpblekkaaJo
namespace Go.Proofs.Ytagfcndpblekkaa
open Go.RowKit Go.Maps
set_option linter.unusedVariables false
set_option linter.unusedSimpArgs false
namespace JP
variable {w w' : World} {a : JA} {Bn : Nat} {b pg sc : Int} {J : JS} {n : Nat}
theorem frm {ex : Nat → Prop} (h : JP w a Bn b pg sc J n) (hf : Frm ex w w') (hx : ∀ k, a.own k → ¬ ex k) : JP w' a Bn b pg sc J n :=
  ⟨h.st.frm hf (hx _ (.inl rfl)), h.ma.frm hf (hx _ (.inr (.inl rfl))), h.tr.frm hf (hx _ (.inr (.inr (.inl rfl)))), h.fl.frm hf (hx _ (.inr (.inr (.inr (.inl rfl))))), h.tp.frm hf (hx _ (.inr (.inr (.inr (.inr (.inl rfl)))))), h.wr.frm hf (hx _ (.inr (.inr (.inr (.inr (.inr rfl)))))), h.ne⟩
theorem bel (h : JP w a Bn b pg sc J n) (hb : Below w.heap.size w w') : JP w' a Bn b pg sc J n := h.frm (ex := fun _ => False) (Frm.of_below hb) (fun _ _ => id)
theorem drew (h : JP w a Bn b pg sc J n) : JP w.drew a Bn b pg sc J n := h.bel (bel_drew (Below.refl _ _))
theorem mono (h : JP w a Bn b pg sc J n) {n' : Nat} (hn : n ≤ n') : JP w a Bn b pg sc J n' := ⟨h.st, h.ma.mono hn, h.tr.mono hn, h.fl, h.tp, h.wr, h.ne⟩
theorem lt (h : JP w a Bn b pg sc J n) : ∀ k, a.own k → k < w.heap.size := by
  rintro k (rfl | rfl | rfl | rfl | rfl | rfl)
  · exact h.st.lt
  · exact h.ma.lt
  · exact h.tr.lt
  · exact h.fl.lt
  · exact h.tp.lt
  · exact h.wr.lt
theorem setMa (h : JP w a Bn b pg sc J n) {f : Int → Int} (hm : MapI w' a.bm (n + 1) f) (hf : Frm (fun k => k = a.bm) w w') : JP w' a Bn b pg sc { J with ma := f } (n + 1) := by
  obtain ⟨n1, n2, n3, n4, n5, n6, n7, n8, n9, n10, n11, n12, n13, n14, n15⟩ := h.ne
  exact ⟨h.st.frm hf n1, hm, (h.tr.mono (Nat.le_succ n)).frm hf (Ne.symm n6), h.fl.frm hf (Ne.symm n7), h.tp.frm hf (Ne.symm n8), h.wr.frm hf (Ne.symm n9), h.ne⟩
theorem setTr (h : JP w a Bn b pg sc J n) {f : Int → Int → Int} {n' : Nat} (hn : n ≤ n') (hm : MapT w' a.bt n' f) (hf : Frm (fun k => k = a.bt) w w') : JP w' a Bn b pg sc { J with tr := f } n' := by
  obtain ⟨n1, n2, n3, n4, n5, n6, n7, n8, n9, n10, n11, n12, n13, n14, n15⟩ := h.ne
  exact ⟨h.st.frm hf n2, (h.ma.mono hn).frm hf n6, hm, h.fl.frm hf (Ne.symm n10), h.tp.frm hf (Ne.symm n11), h.wr.frm hf (Ne.symm n12), h.ne⟩
theorem setFl (h : JP w a Bn b pg sc J n) (k : Nat) (v : Int) : JP (w.setCell ⟨a.ff, k, none⟩ (.int .i64 v)) a Bn b pg sc { J with fl := J.fl.set k v } n := by
  obtain ⟨n1, n2, n3, n4, n5, n6, n7, n8, n9, n10, n11, n12, n13, n14, n15⟩ := h.ne
  have hf := (Frm.refl (fun k => k = a.ff) w).setCell (p := ⟨a.ff, k, none⟩) (fun _ => rfl) (.int .i64 v)
  exact ⟨h.st.frm hf n3, h.ma.frm hf n7, h.tr.frm hf n10, by rw [← iv_set]; exact h.fl.set_ k _, h.tp.frm hf (Ne.symm n13), h.wr.frm hf (Ne.symm n14), h.ne⟩
theorem setTp (h : JP w a Bn b pg sc J n) (k : Nat) (v : Int) : JP (w.setCell ⟨a.tt, k, none⟩ (.int .i64 v)) a Bn b pg sc { J with tp := J.tp.set k v } n := by
  obtain ⟨n1, n2, n3, n4, n5, n6, n7, n8, n9, n10, n11, n12, n13, n14, n15⟩ := h.ne
  have hf := (Frm.refl (fun k => k = a.tt) w).setCell (p := ⟨a.tt, k, none⟩) (fun _ => rfl) (.int .i64 v)
  exact ⟨h.st.frm hf n4, h.ma.frm hf n8, h.tr.frm hf n11, h.fl.frm hf n13, by rw [← iv_set]; exact h.tp.set_ k _, h.wr.frm hf (Ne.symm n15), h.ne⟩
theorem setWr (h : JP w a Bn b pg sc J n) (k : Nat) (v : Int) : JP (w.setCell ⟨a.ww, k, none⟩ (.int .i64 v)) a Bn b pg sc { J with wr := J.wr.set k v } n := by
  obtain ⟨n1, n2, n3, n4, n5, n6, n7, n8, n9, n10, n11, n12, n13, n14, n15⟩ := h.ne
  have hf := (Frm.refl (fun k => k = a.ww) w).setCell (p := ⟨a.ww, k, none⟩) (fun _ => rfl) (.int .i64 v)
  exact ⟨h.st.frm hf n5, h.ma.frm hf n9, h.tr.frm hf n12, h.fl.frm hf n14, h.tp.frm hf n15, by rw [← iv_set]; exact h.wr.set_ k _, h.ne⟩
end JP
/-- The eight cells of a judge. -/
theorem cellsJ {wx : World} {a : JA} {Bn : Nat} {b pg sc : Int} {J : JS} {n : Nat} (h : JP wx a Bn b pg sc J n) : wx.cell? ⟨a.q, 0, none⟩ = some (.int .i64 b) ∧ wx.cell? ⟨a.q, 1, none⟩ = some (.int .i64 pg) ∧ wx.cell? ⟨a.q, 3, none⟩ = some (.map (some a.bm)) ∧ wx.cell? ⟨a.q, 4, none⟩ = some (.slice (some ⟨a.ff, 0, none⟩) Bn Bn) ∧ wx.cell? ⟨a.q, 5, none⟩ = some (.map (some a.bt)) ∧ wx.cell? ⟨a.q, 6, none⟩ = some (.slice (some ⟨a.tt, 0, none⟩) Bn Bn) ∧ wx.cell? ⟨a.q, 7, none⟩ = some (.slice (some ⟨a.ww, 0, none⟩) Bn Bn) :=
  ⟨by rw [h.st.cell]; rfl, by rw [h.st.cell]; rfl, by rw [h.st.cell]; rfl, by rw [h.st.cell]; rfl, by rw [h.st.cell]; rfl, by rw [h.st.cell]; rfl, by rw [h.st.cell]; rfl⟩
theorem newK_ma_t (n : Nat) (p : Int) (m : List Bool) (clean : Bool) (k : Nat) (h : m.getD k false = true) : (fun y => if y = (k : Int) then 1 else (newK n p m clean k).ma y) = (newK n p m clean (k + 1)).ma := by
  funext y
  simp only [newK]
  by_cases e : y = (k : Int)
  · subst e
    rw [if_pos rfl, if_pos ⟨by omega, by omega, by simpa using h⟩]
  · rw [if_neg e]
    by_cases h2 : 0 ≤ y ∧ y < (k : Int) ∧ m.getD y.toNat false = true
    · rw [if_pos h2, if_pos ⟨h2.1, by omega, h2.2.2⟩]
    · rw [if_neg h2, if_neg (fun q => h2 ⟨q.1, by have := q.2.1; omega, q.2.2⟩)]
theorem newK_ma_f (n : Nat) (p : Int) (m : List Bool) (clean : Bool) (k : Nat) (h : m.getD k false = false) : newK n p m clean k = { newK n p m clean k with ma := (newK n p m clean (k + 1)).ma } := by
  unfold newK
  congr 1
  funext y
  simp only
  by_cases e : y = (k : Int)
  · subst e
    rw [if_neg (by omega), if_neg (fun q => by have := q.2.2; rw [Int.toNat_natCast, h] at this; cases this)]
  · by_cases h2 : 0 ≤ y ∧ y < (k : Int) ∧ m.getD y.toNat false = true
    · rw [if_pos h2, if_pos ⟨h2.1, by omega, h2.2.2⟩]
    · rw [if_neg h2, if_neg (fun q => h2 ⟨q.1, by have := q.2.1; omega, q.2.2⟩)]
theorem newK_t (n : Nat) (p : Int) (m : List Bool) (k : Nat) (h : k < n) : { newK n p m true k with ma := (newK n p m true (k + 1)).ma } = newK n p m true (k + 1) := by
  unfold newK
  congr 1
  simp only [nx0, if_true, List.replicate_append_replicate]
  rw [show k + (n - k) = n by omega, show k + 1 + (n - (k + 1)) = n by omega]
theorem newK_f (n : Nat) (p : Int) (m : List Bool) (k : Nat) (h : k < n) : ({ newK n p m false k with ma := (newK n p m false (k + 1)).ma, fl := (newK n p m false k).fl.set k p } : JS) = newK n p m false (k + 1) := by
  unfold newK
  congr 1
  simp only [nx0, Bool.false_eq_true, if_false]
  rw [List.set_append_right _ _ (by simp), List.length_replicate, Nat.sub_self, show n - k = (n - (k + 1)) + 1 by omega, List.replicate_succ, List.set_cons_zero, List.replicate_succ', List.append_assoc]
  rfl
set_option maxRecDepth 100000 in
set_option maxHeartbeats 6400000 in
theorem New_ok (b p s : Int) (A : Option Addr) (n c : Nat) (m : List Bool) (clean : Bool) (w : World) (hml : m.length = n) (hr : Rd w A (bls m)) (h0 : newE b p s n = 0) :
    Calls Try.prog 24 #[.agg #[.int .i64 b, .int .i64 p, .int .i64 s], .slice A n c, .bool clean] w fun e w' => ∃ a : JA, e = .returned (.tuple #[.pointer (some ⟨a.q, 0, none⟩), .int .i64 0]) ∧ JP w' a n b p s (newK n p m clean n) n ∧ (∀ k, a.own k → w.heap.size ≤ k) ∧ Below w.heap.size w w' := by
  obtain ⟨⟨f1, f2, f3, f4, f5, f6, f7⟩, hnb⟩ := newE_zero h0
  have hfit : fitG b p s = true := decide_eq_true ⟨f1, f2, f3, f4, f5, f6, f7⟩
  obtain ⟨w1, hw1⟩ : ∃ x, x = w.alloc (.cells #[.int .i64 b, .int .i64 p, .int .i64 s] 23) := ⟨_, rfl⟩
  have hB : Below w.heap.size w w1 := by rw [hw1]; exact (Below.refl _ w).alloc (Nat.le_refl _) _
  have kg : Blk w1 w.heap.size 23 [.int .i64 b, .int .i64 p, .int .i64 s] := by rw [hw1]; exact Blk.new w _ [.int .i64 b, .int .i64 p, .int .i64 s]
  have hfc := fits_any b p s w1
  rw [hfit] at hfc
  obtain ⟨G, hG⟩ : ∃ G, G = w.heap.size := ⟨_, rfl⟩
  rw [← hG] at kg
  have HG := Lib.hid hG
  have HML := Lib.hid hml
  have hb4 : n ≤ 4096 := by omega
  have hnz : 0 < n := by omega
  go_enter Try.func24, Try.ntmps24
  go_wp2_with fail
  rw [← hw1, ← hG]
  clear hw1 hG
  with_reducible refine hfc.mono ?_
  rintro e w2 ⟨rfl, b2⟩
  replace kg := kg.frm (ex := fun _ => False) (Frm.of_below b2) id
  replace hB := hB.trans (b2.mono hB.size)
  have g0 : w2.cell? ⟨G, 0, none⟩ = some (.int .i64 b) := kg.cell 0
  have g1 : w2.cell? ⟨G, 1, none⟩ = some (.int .i64 p) := kg.cell 1
  have g2 : w2.cell? ⟨G, 2, none⟩ = some (.int .i64 s) := kg.cell 2
  have hn2 : ¬ ¬ (n : Int) = b := by omega
  go_upto_region 5 with fail
  have hS : ∀ wx, Below w2.heap.size w2 wx → (fun wx : World => wx.cell? ⟨G, 0, none⟩ = some (.int .i64 b) ∧ wx.cell? ⟨G, 1, none⟩ = some (.int .i64 p) ∧ wx.cell? ⟨G, 2, none⟩ = some (.int .i64 s)) wx := fun wx hb => ⟨(kg.frm (ex := fun _ => False) (Frm.of_below hb) id).cell 0, (kg.frm (ex := fun _ => False) (Frm.of_below hb) id).cell 1, (kg.frm (ex := fun _ => False) (Frm.of_below hb) id).cell 2⟩
  have HS := Lib.hid hS
  have hKG := Lib.hid kg
  clear hn2 hfc b2 hfit f1 f2 f3 f4 f5 f6 f7 h0 g0 g1 g2 hS kg
  refine wp_region_held_drew (S := fun wx : World => wx.cell? ⟨G, 0, none⟩ = some (.int .i64 b) ∧ wx.cell? ⟨G, 1, none⟩ = some (.int .i64 p) ∧ wx.cell? ⟨G, 2, none⟩ = some (.int .i64 s)) (by kernel_rfl) (HS.out _ (bel_drew (Below.refl _ _))) (fun hHeld => ?_)
  refine wpAnyH_take (i := 0) (oi := _) (v := .agg #[.int .i64 b, .int .i64 p, .int .i64 s]) rfl (by kernel_rfl) (by kernel_rfl) (by kernel_rfl) (fun _ _ _ h => h) (.inl ⟨rfl, fun wx hSw => ?_⟩) hHeld ?_
  · obtain ⟨s0, s1, s2⟩ := hSw
    go_simp
  simp only [Act.put, List.setIfInBounds_toArray, List.set_cons_zero, List.set_cons_succ]
  refine wpAnyH_take (i := 3) (oi := _) (v := .pointer (some ⟨G, 0, none⟩)) rfl (by kernel_rfl) (by kernel_rfl) (by kernel_rfl) (fun _ _ _ h => h) (.inl ⟨rfl, fun wx hSw => ?_⟩) hHeld ?_
  · obtain ⟨s0, s1, s2⟩ := hSw
    go_simp
  simp only [Act.put, List.setIfInBounds_toArray, List.set_cons_zero, List.set_cons_succ]
  refine wpAnyH_take (i := 4) (oi := _) (v := .int .i64 b) rfl (by kernel_rfl) (by kernel_rfl) (by kernel_rfl) (fun _ _ _ h => h) (.inl ⟨rfl, fun wx hSw => ?_⟩) hHeld ?_
  · obtain ⟨s0, s1, s2⟩ := hSw
    go_simp
  simp only [Act.put, List.setIfInBounds_toArray, List.set_cons_zero, List.set_cons_succ]
  refine wpAnyH_take (i := 6) (oi := _) (v := .pointer (some ⟨G, 0, none⟩)) rfl (by kernel_rfl) (by kernel_rfl) (by kernel_rfl) (fun _ _ _ h => h) (.inl ⟨rfl, fun wx hSw => ?_⟩) hHeld ?_
  · obtain ⟨s0, s1, s2⟩ := hSw
    go_simp
  simp only [Act.put, List.setIfInBounds_toArray, List.set_cons_zero, List.set_cons_succ]
  refine wpAnyH_take (i := 7) (oi := _) (v := .int .i64 b) rfl (by kernel_rfl) (by kernel_rfl) (by kernel_rfl) (fun _ _ _ h => h) (.inl ⟨rfl, fun wx hSw => ?_⟩) hHeld ?_
  · obtain ⟨s0, s1, s2⟩ := hSw
    go_simp
  simp only [Act.put, List.setIfInBounds_toArray, List.set_cons_zero, List.set_cons_succ]
  refine wpAnyH_take (i := 9) (oi := _) (v := .pointer (some ⟨G, 0, none⟩)) rfl (by kernel_rfl) (by kernel_rfl) (by kernel_rfl) (fun _ _ _ h => h) (.inl ⟨rfl, fun wx hSw => ?_⟩) hHeld ?_
  · obtain ⟨s0, s1, s2⟩ := hSw
    go_simp
  simp only [Act.put, List.setIfInBounds_toArray, List.set_cons_zero, List.set_cons_succ]
  refine wpAnyH_take (i := 10) (oi := _) (v := .int .i64 b) rfl (by kernel_rfl) (by kernel_rfl) (by kernel_rfl) (fun _ _ _ h => h) (.inl ⟨rfl, fun wx hSw => ?_⟩) hHeld ?_
  · obtain ⟨s0, s1, s2⟩ := hSw
    go_simp
  simp only [Act.put, List.setIfInBounds_toArray, List.set_cons_zero, List.set_cons_succ]
  refine nw_none (w0 := w2) b p s n hnb.symm (by omega) HS.out ?_ (Has.nil (bel_drew (Below.refl _ _)))
  intro bm bt ff tt ww w3 hhas
  obtain ⟨hJ0, hown0⟩ := has_jp (b := b) (pg := p) (sc := s) m clean hhas
  have hb3 := hhas.1
  obtain ⟨w4, hw4⟩ : ∃ x, x = w3.alloc (.cells (stV ⟨w3.heap.size, bm, bt, ff, tt, ww⟩ n b p s).toArray 83) := ⟨_, rfl⟩
  have b34 : Below w2.heap.size w2 w4 := by rw [hw4]; exact hb3.alloc hb3.size _
  rw [← hw4] at hJ0
  show Exit.then _ _ .normal _ (w3.alloc (.cells (stV ⟨w3.heap.size, bm, bt, ff, tt, ww⟩ n b p s).toArray 83))
  rw [← hw4]
  obtain ⟨q, hq⟩ : ∃ q, q = w3.heap.size := ⟨_, rfl⟩
  rw [← hq] at hJ0 hown0 ⊢
  clear hw4 hq hhas hb3 HS
  obtain ⟨a, ha⟩ : ∃ a : JA, a = ⟨q, bm, bt, ff, tt, ww⟩ := ⟨_, rfl⟩
  rw [← ha] at hJ0 hown0
  have e1 : q = a.q := by rw [ha]
  rw [e1]
  clear e1
  have hown : ∀ k, a.own k → w.heap.size ≤ k := fun k hk => Nat.le_trans hB.size (hown0 k hk)
  have hG2 : ∀ k, a.own k → k ≠ G := fun k hk e => by have h1 := hown0 k hk; have := hKG.out.lt; omega
  have kg : Blk w4 G 23 [.int .i64 b, .int .i64 p, .int .i64 s] := hKG.out.frm (ex := fun _ => False) (Frm.of_below b34) id
  replace hB := hB.trans (b34.mono hB.size)
  have r4 := hr.below hB
  clear ha b34 hown0 hKG
  go_wp2
  go_loopw [35] (fun ii wr => ∃ k : Nat, k ≤ n ∧ ii = .int .i64 k ∧ JP wr a n b p s (newK n p m clean k) k ∧ Frm a.own w4 wr) (fun ii _ => n - (intJ ii))
  case atStart => exact ⟨0, by omega, rfl, hJ0, Frm.refl _ _⟩
  case round =>
    clear hJ0
    obtain ⟨k, hk, rfl, hJ, hf⟩ := hrel
    by_cases hlt : k < n
    · have hlti : (k : Int) < (n : Int) := by omega
      have hrk : Rd wr A (bls m) := r4.frm2 hr hf hown
      obtain ⟨ad, rfl, hc⟩ := hrk.at_ (k := k) (bls_at m k (by have := HML.out; omega))
      obtain ⟨mk, hmk⟩ : ∃ x, x = m.getD k false := ⟨_, rfl⟩
      rw [← hmk] at hc
      have HMK := Lib.hid hmk
      clear hmk
      have kg' := kg.frm hf (fun h => hG2 G h rfl)
      have HK := Lib.hid kg'
      obtain ⟨c0, c1, c3, c4, c5, c6, c7⟩ := cellsJ hJ
      obtain ⟨w5, hput, hM5, hF5⟩ := hJ.ma.put (x := (k : Int)) (by unfold maxLen; omega) ⟨by omega, by omega⟩
      have hJ5 := hJ.setMa hM5 hF5
      have hf5 := hf.trans (hF5.mono (fun q _ h => .inr (.inl h)))
      have hft := newK_ma_t n p m clean k
      have hff := newK_ma_f n p m clean k
      have HT := Lib.hid hft
      have HF := Lib.hid hff
      clear hrk kg' hft hff hM5 hF5
      go_upto_if 40 with (fail)
      go_cut [10] (fun _ wx => JP wx a n b p s { newK n p m clean k with ma := (newK n p m clean (k + 1)).ma } (k + 1) ∧ Frm a.own w4 wx)
      case first =>
        cases mk with
        | true =>
          rw [HT.out HMK.out.symm] at hJ5
          go_wp2
          go_meet
          exact ⟨hJ5, hf5⟩
        | false =>
          have hJ6 : JP wr a n b p s { newK n p m clean k with ma := (newK n p m clean (k + 1)).ma } (k + 1) := by
            rw [← HF.out HMK.out.symm]; exact hJ.mono (Nat.le_succ k)
          clear hput hJ5 hf5
          go_wp2
          go_meet
          exact ⟨hJ6, hf⟩
      case rest =>
        obtain ⟨hJ7, hf7⟩ := hcut
        clear hJ hf hJ5 hf5 hput c0 c1 c3 c4 c5 c6 c7 hc HT HF HK
        generalize wc = w7 at *
        have kg7 := kg.frm hf7 (fun h => hG2 G h rfl)
        have gp : w7.cell? ⟨G, 1, none⟩ = some (.int .i64 p) := kg7.cell 1
        obtain ⟨c0, c1, c3, c4, c5, c6, c7⟩ := cellsJ hJ7
        cases clean with
        | true =>
          have hJ8 : JP w7 a n b p s (newK n p m true (k + 1)) (k + 1) := by rw [← newK_t n p m k hlt]; exact hJ7
          go_wp2
          go_roundw
          case rel => exact ⟨k + 1, by omega, by go_num, hJ8, hf7⟩
          case measure => simp [intJ]; omega
        | false =>
          have hcf : w7.cell? ⟨a.ff, k, none⟩ = some (.int .i64 ((newK n p m false k).fl.getD k 0)) := by
            rw [hJ7.fl.cell]; exact iv_at _ _ (by simp [newK]; omega)
          have hfz := hJ7.fl.frozen k
          have hJ8 := (hJ7.setFl k p).drew
          rw [show ({ newK n p m false k with ma := (newK n p m false (k + 1)).ma, fl := (newK n p m false k).fl.set k p } : JS) = newK n p m false (k + 1) from newK_f n p m k hlt] at hJ8
          have hf8 := (hf7.setCell (p := ⟨a.ff, k, none⟩) (fun _ => .inr (.inr (.inr (.inl rfl)))) (.int .i64 p)).drew
          go_upto_region 12 with fail
          refine wp_region_still_tail 8 (by kernel_rfl) (by kernel_rfl) ?_
          simp only [List.take_succ_cons, List.take_zero, List.drop_succ_cons, List.drop_zero]
          repeat still_step
          refine wpStill_nil ?_
          change wpList _ _ _ _ _ w7.drew
          go_wp2
          go_roundw
          case rel => exact ⟨k + 1, by omega, by go_num, hJ8, hf8⟩
          case measure => simp [intJ]; omega
    · obtain rfl : k = n := by omega
      go_wp2
      go_ret2
      exact ⟨a, rfl, hJ, hown, below_frm hB hB.size hf hown⟩
end Go.Proofs.Ytagfcndpblekkaa
