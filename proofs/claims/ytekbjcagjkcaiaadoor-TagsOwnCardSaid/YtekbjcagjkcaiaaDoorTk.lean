/- Tags taken off their rails: the program's Lift and the document's. -/
import Derived.Test.YtekbjcagjkcaiaaDoorTs
import Derived.Test.YtekbjcagjkcaiaaDoorTRq
namespace Go.Proofs.YtekbjcagjkcaiaaDoor
open Go.RowKit
set_option linter.unusedVariables false
set_option linter.unusedSimpArgs false
theorem results_ctt2 {P : Program} {fn : Func} {p u v : Tmp} {ty : TypeId} (h : fn.results = #[.cell p ty, .tmp u, .tmp v]) (tmps : Array Value) (w : World) (g : Nat) (t : TypeId) (cs : Array Value) (fr : Nat × Nat) (d : TypeDesc)
    (hp : tmps.getD p undef = .pointer (some ⟨g, 0, none⟩)) (hg : w.heap[g]? = some (.cells cs t fr))
    (hu : P.underlying ty = some d) (hd : (match d with | .struct _ | .array _ _ => true | _ => false) = true) (hi : (P.info? ty).map (·.size) = some cs.size) :
    (results fn tmps).run P w = .ok (.tuple #[.agg cs, tmps.getD u undef, tmps.getD v undef]) w := by
  have hp' : tmps[p]?.getD undef = .pointer (some ⟨g, 0, none⟩) := by simpa using hp
  simp [results, h, hp', asAddr, run_loadVar_row w g t ty cs fr d hg hu hd hi]
theorem RdP.open2 {p : List UInt8} {t er : Int} {m : Nat} {w w' : World} {e : Ending} (h : RdP (p, t, er) w e w') (hm : p.length = m) : ∃ A c sp, e = .returned (.tuple #[.slice A m c, .int .i64 t, .int .i64 er]) ∧ Owx w' 5 1 (.slice A m c) m (u8s p) sp ∧ (∀ q, (Value.slice A m c).ownBlock = some q → w.heap.size ≤ q) ∧ m ≤ c ∧ Rd w' A (u8s p) ∧ Below w.heap.size w w' := by
  obtain ⟨v, sp, rfl, ho, hf, hb⟩ := h
  obtain ⟨A, c, rfl, hc, hr⟩ := ho.rd
  subst hm
  exact ⟨A, c, sp, rfl, ho, hf, hc, hr, hb⟩
set_option maxHeartbeats 1600000 in
theorem rLift_no (A : Option Addr) (n cap : Nat) (w : World) (hn : n ≠ 54) (hm : n ≤ 140737488355328) :
    Calls Tryd.prog 16 #[.slice A n cap] w fun e w' => e = .returned (.tuple #[tagZ, .int .i64 0, .int .i64 60]) ∧ Below w.heap.size w w' := by
  have hnn : ¬ ((n : Nat) : Int) = 54 := by omega
  clear hn
  obtain ⟨w1, hw1⟩ : ∃ w1, w1 = w.alloc (.cells #[.int .i64 0, .int .i64 0, .int .u64 0, .int .u64 0, .int .i64 0, .int .i64 0, .int .i64 0, .int .i64 0] 25) := ⟨_, rfl⟩
  have hB : Below w.heap.size w w1 := by rw [hw1]; exact (Below.refl _ w).alloc (Nat.le_refl _) _
  have hk : Blk w1 w.heap.size 25 [.int .i64 0, .int .i64 0, .int .u64 0, .int .u64 0, .int .i64 0, .int .i64 0, .int .i64 0, .int .i64 0] := by rw [hw1]; exact Blk.new w _ [.int .i64 0, .int .i64 0, .int .u64 0, .int .u64 0, .int .i64 0, .int .i64 0, .int .i64 0, .int .i64 0]
  unfold tagZ
  go_enter Tryd.func16, Tryd.ntmps16
  go_wp2
  rw [← hw1]
  refine bodyPost_ret (results_ctt2 rfl _ _ w.heap.size 25 #[.int .i64 0, .int .i64 0, .int .u64 0, .int .u64 0, .int .i64 0, .int .i64 0, .int .i64 0, .int .i64 0] (0, 0) _ rfl hk Tryd.underlying25 rfl (by kernel_rfl)) rfl ?_
  exact ⟨rfl, hB⟩
set_option maxHeartbeats 1600000 in
theorem rLift_err (A : Option Addr) (n cap : Nat) (l p : List UInt8) (t er : Int) (w : World) (hl : l.length = n) (hn : n = 54) (hr : Rd w A (u8s l)) (hR : readR l = (p, t, er)) (he : er ≠ 0) :
    Calls Tryd.prog 16 #[.slice A n cap] w fun e w' => e = .returned (.tuple #[tagZ, .int .i64 0, .int .i64 er]) ∧ Below w.heap.size w w' := by
  subst hn
  obtain ⟨w1, hw1⟩ : ∃ w1, w1 = w.alloc (.cells #[.int .i64 0, .int .i64 0, .int .u64 0, .int .u64 0, .int .i64 0, .int .i64 0, .int .i64 0, .int .i64 0] 25) := ⟨_, rfl⟩
  have hB : Below w.heap.size w w1 := by rw [hw1]; exact (Below.refl _ w).alloc (Nat.le_refl _) _
  have hk : Blk w1 w.heap.size 25 [.int .i64 0, .int .i64 0, .int .u64 0, .int .u64 0, .int .i64 0, .int .i64 0, .int .i64 0, .int .i64 0] := by rw [hw1]; exact Blk.new w _ [.int .i64 0, .int .i64 0, .int .u64 0, .int .u64 0, .int .i64 0, .int .i64 0, .int .i64 0, .int .i64 0]
  have hC := rRead_any A 54 cap l w1 hl (hr.below hB) (by decide)
  rw [hR] at hC
  obtain ⟨G, hG⟩ : ∃ G, G = w.heap.size := ⟨_, rfl⟩
  unfold tagZ
  obtain ⟨m, hm⟩ : ∃ m, p.length = m := ⟨_, rfl⟩
  have HM := Lib.hid hm
  clear hl hR hr hm
  go_enter Tryd.func16, Tryd.ntmps16
  go_wp2_with fail
  rw [← hw1]
  with_reducible refine hC.mono ?_
  rintro e w2 hp
  obtain ⟨A2, c2, sp2, rfl, _, _, _, _, b2⟩ := hp.open2 HM.out
  have bb := hB.trans (b2.mono hB.size)
  have k2 := hk.frm (ex := fun _ => False) (Frm.of_below b2) id
  rw [← hG] at k2 ⊢
  have HG := Lib.hid hG
  clear hw1 hG hk hB hC b2 hp
  have z0 := k2.cell 0
  have f0 := k2.frozen 0
  have z1 := k2.cell 1
  have f1 := k2.frozen 1
  have z2 := k2.cell 2
  have f2 := k2.frozen 2
  have z3 := k2.cell 3
  have f3 := k2.frozen 3
  have z4 := k2.cell 4
  have f4 := k2.frozen 4
  have z5 := k2.cell 5
  have f5 := k2.frozen 5
  have z6 := k2.cell 6
  have f6 := k2.frozen 6
  have z7 := k2.cell 7
  have f7 := k2.frozen 7
  simp only [List.getElem?_cons_zero, List.getElem?_cons_succ] at z0 z1 z2 z3 z4 z5 z6 z7
  go_wp2
  obtain ⟨kf, bf⟩ := set8 (.int .i64 0) (.int .i64 0) (.int .u64 0) (.int .u64 0) (.int .i64 0) (.int .i64 0) (.int .i64 0) (.int .i64 0) k2 bb (by have := HG.out; omega)
  refine bodyPost_ret (results_ctt2 rfl _ _ G 25 #[.int .i64 0, .int .i64 0, .int .u64 0, .int .u64 0, .int .i64 0, .int .i64 0, .int .i64 0, .int .i64 0] (0, 0) _ rfl kf Tryd.underlying25 rfl (by kernel_rfl)) rfl ?_
  exact ⟨rfl, bf⟩
set_option maxHeartbeats 3200000 in
theorem rLift_ok (A : Option Addr) (n cap m : Nat) (l p : List UInt8) (t : Int) (x0 x1 x2 x3 x4 x5 x6 x7 f : Int) (w : World) (hl : l.length = n) (hn : n = 54) (hr : Rd w A (u8s l)) (hR : readR l = (p, t, 0)) (hp : p.length = m)
    (hA : ∀ (A : Option Addr) (cap : Nat) (w : World), m ≤ cap → Rd w A (u8s p) → Calls Tryd.prog 10 #[.slice A m cap] w fun e w' => e = .returned (.tuple #[.agg #[.int .i64 x0, .int .i64 x1, .int .u64 x2, .int .u64 x3, .int .i64 x4, .int .i64 x5, .int .i64 x6, .int .i64 x7], .int .i64 f]) ∧ Below w.heap.size w w') :
    Calls Tryd.prog 16 #[.slice A n cap] w fun e w' => e = .returned (.tuple #[.agg #[.int .i64 x0, .int .i64 x1, .int .u64 x2, .int .u64 x3, .int .i64 x4, .int .i64 x5, .int .i64 x6, .int .i64 x7], .int .i64 t, .int .i64 f]) ∧ Below w.heap.size w w' := by
  subst hn
  obtain ⟨w1, hw1⟩ : ∃ w1, w1 = w.alloc (.cells #[.int .i64 0, .int .i64 0, .int .u64 0, .int .u64 0, .int .i64 0, .int .i64 0, .int .i64 0, .int .i64 0] 25) := ⟨_, rfl⟩
  have hB : Below w.heap.size w w1 := by rw [hw1]; exact (Below.refl _ w).alloc (Nat.le_refl _) _
  have hk : Blk w1 w.heap.size 25 [.int .i64 0, .int .i64 0, .int .u64 0, .int .u64 0, .int .i64 0, .int .i64 0, .int .i64 0, .int .i64 0] := by rw [hw1]; exact Blk.new w _ [.int .i64 0, .int .i64 0, .int .u64 0, .int .u64 0, .int .i64 0, .int .i64 0, .int .i64 0, .int .i64 0]
  have hC := rRead_any A 54 cap l w1 hl (hr.below hB) (by decide)
  rw [hR] at hC
  have HA := Lib.hid hA
  have HP := Lib.hid hp
  obtain ⟨G, hG⟩ : ∃ G, G = w.heap.size := ⟨_, rfl⟩
  clear hl hR hr hA hp
  go_enter Tryd.func16, Tryd.ntmps16
  go_wp2_with fail
  rw [← hw1]
  with_reducible refine hC.mono ?_
  rintro e w2 hp
  obtain ⟨A2, c2, sp2, rfl, _, _, hc2, r2, b2⟩ := hp.open2 HP.out
  have hb2 := hB.trans (b2.mono hB.size)
  have k2 := hk.frm (ex := fun _ => False) (Frm.of_below b2) id
  rw [← hG] at k2 ⊢
  have HG := Lib.hid hG
  clear hw1 hG hk hB hC b2 hp
  go_wp2_with fail
  with_reducible refine (HA.out A2 c2 _ hc2 r2).mono ?_
  rintro e w3 ⟨rfl, b3⟩
  go_upto_region 7 with fail
  obtain ⟨w4, hw4⟩ : ∃ x, x = w3.alloc (.cells #[.int .i64 x0, .int .i64 x1, .int .u64 x2, .int .u64 x3, .int .i64 x4, .int .i64 x5, .int .i64 x6, .int .i64 x7] 25) := ⟨_, rfl⟩
  have k4 : Blk w4 w3.heap.size 25 [.int .i64 x0, .int .i64 x1, .int .u64 x2, .int .u64 x3, .int .i64 x4, .int .i64 x5, .int .i64 x6, .int .i64 x7] := by rw [hw4]; exact Blk.new w3 _ _
  have b4 : Below w2.heap.size w2 w4 := by rw [hw4]; exact b3.alloc b3.size _
  rw [← hw4]
  have hgl := k2.lt
  replace k2 := k2.frm (ex := fun _ => False) (Frm.of_below b4) id
  have bb := hb2.trans (b4.mono hb2.size)
  obtain ⟨Q, hQ⟩ : ∃ Q, Q = w3.heap.size := ⟨_, rfl⟩
  rw [← hQ] at k4 ⊢
  have hne : G ≠ Q := by have := b3.size; omega
  clear hw4 hQ b4 b3 hb2 r2
  have z0 := k2.cell 0
  have f0 := k2.frozen 0
  have c0 := k4.cell 0
  have z1 := k2.cell 1
  have f1 := k2.frozen 1
  have c1 := k4.cell 1
  have z2 := k2.cell 2
  have f2 := k2.frozen 2
  have c2 := k4.cell 2
  have z3 := k2.cell 3
  have f3 := k2.frozen 3
  have c3 := k4.cell 3
  have z4 := k2.cell 4
  have f4 := k2.frozen 4
  have c4 := k4.cell 4
  have z5 := k2.cell 5
  have f5 := k2.frozen 5
  have c5 := k4.cell 5
  have z6 := k2.cell 6
  have f6 := k2.frozen 6
  have c6 := k4.cell 6
  have z7 := k2.cell 7
  have f7 := k2.frozen 7
  have c7 := k4.cell 7
  simp only [List.getElem?_cons_zero, List.getElem?_cons_succ] at z0 z1 z2 z3 z4 z5 z6 z7 c0 c1 c2 c3 c4 c5 c6 c7
  go_wp2
  obtain ⟨kf, bf⟩ := set8 (.int .i64 x0) (.int .i64 x1) (.int .u64 x2) (.int .u64 x3) (.int .i64 x4) (.int .i64 x5) (.int .i64 x6) (.int .i64 x7) k2 bb (by have := HG.out; omega)
  refine bodyPost_ret (results_ctt2 rfl _ _ G 25 #[.int .i64 x0, .int .i64 x1, .int .u64 x2, .int .u64 x3, .int .i64 x4, .int .i64 x5, .int .i64 x6, .int .i64 x7] (0, 0) _ rfl kf Tryd.underlying25 rfl (by kernel_rfl)) rfl ?_
  exact ⟨rfl, bf⟩
set_option maxHeartbeats 1600000 in
theorem Lift_no (A : Option Addr) (n cap : Nat) (w : World) (hn : n ≠ 54) (hm : n ≤ 140737488355328) :
    Calls Tryd.prog 17 #[.slice A n cap] w fun e w' => e = .returned (.tuple #[tagZ, .int .i64 0, .int .i64 60]) ∧ Below w.heap.size w w' := by
  have hnn : ¬ ((n : Nat) : Int) = 54 := by omega
  clear hn
  obtain ⟨w1, hw1⟩ : ∃ w1, w1 = w.alloc (.cells #[.int .i64 0, .int .i64 0, .int .u64 0, .int .u64 0, .int .i64 0, .int .i64 0, .int .i64 0, .int .i64 0] 25) := ⟨_, rfl⟩
  have hB : Below w.heap.size w w1 := by rw [hw1]; exact (Below.refl _ w).alloc (Nat.le_refl _) _
  have hk : Blk w1 w.heap.size 25 [.int .i64 0, .int .i64 0, .int .u64 0, .int .u64 0, .int .i64 0, .int .i64 0, .int .i64 0, .int .i64 0] := by rw [hw1]; exact Blk.new w _ [.int .i64 0, .int .i64 0, .int .u64 0, .int .u64 0, .int .i64 0, .int .i64 0, .int .i64 0, .int .i64 0]
  unfold tagZ
  go_enter Tryd.func17, Tryd.ntmps17
  go_wp2
  rw [← hw1]
  refine bodyPost_ret (results_ctt2 rfl _ _ w.heap.size 25 #[.int .i64 0, .int .i64 0, .int .u64 0, .int .u64 0, .int .i64 0, .int .i64 0, .int .i64 0, .int .i64 0] (0, 0) _ rfl hk Tryd.underlying25 rfl (by kernel_rfl)) rfl ?_
  exact ⟨rfl, hB⟩
set_option maxHeartbeats 1600000 in
theorem Lift_err (A : Option Addr) (n cap : Nat) (l p : List UInt8) (t er : Int) (w : World) (hl : l.length = n) (hn : n = 54) (hr : Rd w A (u8s l)) (hR : readR l = (p, t, er)) (he : er ≠ 0) :
    Calls Tryd.prog 17 #[.slice A n cap] w fun e w' => e = .returned (.tuple #[tagZ, .int .i64 0, .int .i64 er]) ∧ Below w.heap.size w w' := by
  subst hn
  obtain ⟨w1, hw1⟩ : ∃ w1, w1 = w.alloc (.cells #[.int .i64 0, .int .i64 0, .int .u64 0, .int .u64 0, .int .i64 0, .int .i64 0, .int .i64 0, .int .i64 0] 25) := ⟨_, rfl⟩
  have hB : Below w.heap.size w w1 := by rw [hw1]; exact (Below.refl _ w).alloc (Nat.le_refl _) _
  have hk : Blk w1 w.heap.size 25 [.int .i64 0, .int .i64 0, .int .u64 0, .int .u64 0, .int .i64 0, .int .i64 0, .int .i64 0, .int .i64 0] := by rw [hw1]; exact Blk.new w _ [.int .i64 0, .int .i64 0, .int .u64 0, .int .u64 0, .int .i64 0, .int .i64 0, .int .i64 0, .int .i64 0]
  have hC := Read_any A 54 cap l w1 hl (hr.below hB) (by decide)
  rw [hR] at hC
  obtain ⟨G, hG⟩ : ∃ G, G = w.heap.size := ⟨_, rfl⟩
  unfold tagZ
  obtain ⟨m, hm⟩ : ∃ m, p.length = m := ⟨_, rfl⟩
  have HM := Lib.hid hm
  clear hl hR hr hm
  go_enter Tryd.func17, Tryd.ntmps17
  go_wp2_with fail
  rw [← hw1]
  with_reducible refine hC.mono ?_
  rintro e w2 hp
  obtain ⟨A2, c2, sp2, rfl, _, _, _, _, b2⟩ := hp.open2 HM.out
  have bb := hB.trans (b2.mono hB.size)
  have k2 := hk.frm (ex := fun _ => False) (Frm.of_below b2) id
  rw [← hG] at k2 ⊢
  have HG := Lib.hid hG
  clear hw1 hG hk hB hC b2 hp
  have z0 := k2.cell 0
  have f0 := k2.frozen 0
  have z1 := k2.cell 1
  have f1 := k2.frozen 1
  have z2 := k2.cell 2
  have f2 := k2.frozen 2
  have z3 := k2.cell 3
  have f3 := k2.frozen 3
  have z4 := k2.cell 4
  have f4 := k2.frozen 4
  have z5 := k2.cell 5
  have f5 := k2.frozen 5
  have z6 := k2.cell 6
  have f6 := k2.frozen 6
  have z7 := k2.cell 7
  have f7 := k2.frozen 7
  simp only [List.getElem?_cons_zero, List.getElem?_cons_succ] at z0 z1 z2 z3 z4 z5 z6 z7
  go_wp2
  obtain ⟨kf, bf⟩ := set8 (.int .i64 0) (.int .i64 0) (.int .u64 0) (.int .u64 0) (.int .i64 0) (.int .i64 0) (.int .i64 0) (.int .i64 0) k2 bb (by have := HG.out; omega)
  refine bodyPost_ret (results_ctt2 rfl _ _ G 25 #[.int .i64 0, .int .i64 0, .int .u64 0, .int .u64 0, .int .i64 0, .int .i64 0, .int .i64 0, .int .i64 0] (0, 0) _ rfl kf Tryd.underlying25 rfl (by kernel_rfl)) rfl ?_
  exact ⟨rfl, bf⟩
set_option maxHeartbeats 3200000 in
theorem Lift_ok (A : Option Addr) (n cap m : Nat) (l p : List UInt8) (t : Int) (x0 x1 x2 x3 x4 x5 x6 x7 f : Int) (w : World) (hl : l.length = n) (hn : n = 54) (hr : Rd w A (u8s l)) (hR : readR l = (p, t, 0)) (hp : p.length = m) (hL : LayT w)
    (hA : ∀ (A : Option Addr) (cap : Nat) (w : World), Rd w A (u8s p) → LayT w → Calls Tryd.prog 12 #[.slice A m cap] w fun e w' => e = .returned (.tuple #[.agg #[.int .i64 x0, .int .i64 x1, .int .u64 x2, .int .u64 x3, .int .i64 x4, .int .i64 x5, .int .i64 x6, .int .i64 x7], .int .i64 f]) ∧ Below w.heap.size w w') :
    Calls Tryd.prog 17 #[.slice A n cap] w fun e w' => e = .returned (.tuple #[.agg #[.int .i64 x0, .int .i64 x1, .int .u64 x2, .int .u64 x3, .int .i64 x4, .int .i64 x5, .int .i64 x6, .int .i64 x7], .int .i64 t, .int .i64 f]) ∧ Below w.heap.size w w' := by
  subst hn
  obtain ⟨w1, hw1⟩ : ∃ w1, w1 = w.alloc (.cells #[.int .i64 0, .int .i64 0, .int .u64 0, .int .u64 0, .int .i64 0, .int .i64 0, .int .i64 0, .int .i64 0] 25) := ⟨_, rfl⟩
  have hB : Below w.heap.size w w1 := by rw [hw1]; exact (Below.refl _ w).alloc (Nat.le_refl _) _
  have hk : Blk w1 w.heap.size 25 [.int .i64 0, .int .i64 0, .int .u64 0, .int .u64 0, .int .i64 0, .int .i64 0, .int .i64 0, .int .i64 0] := by rw [hw1]; exact Blk.new w _ [.int .i64 0, .int .i64 0, .int .u64 0, .int .u64 0, .int .i64 0, .int .i64 0, .int .i64 0, .int .i64 0]
  have hC := Read_any A 54 cap l w1 hl (hr.below hB) (by decide)
  rw [hR] at hC
  have HA := Lib.hid hA
  have HP := Lib.hid hp
  obtain ⟨G, hG⟩ : ∃ G, G = w.heap.size := ⟨_, rfl⟩
  clear hl hR hr hA hp
  go_enter Tryd.func17, Tryd.ntmps17
  go_wp2_with fail
  rw [← hw1]
  with_reducible refine hC.mono ?_
  rintro e w2 hp
  obtain ⟨A2, c2, sp2, rfl, _, _, hc2, r2, b2⟩ := hp.open2 HP.out
  have hb2 := hB.trans (b2.mono hB.size)
  have k2 := hk.frm (ex := fun _ => False) (Frm.of_below b2) id
  rw [← hG] at k2 ⊢
  have HG := Lib.hid hG
  clear hw1 hG hk hB hC b2 hp
  go_wp2_with fail
  with_reducible refine (HA.out A2 c2 _ r2 (hL.below hb2)).mono ?_
  rintro e w3 ⟨rfl, b3⟩
  go_upto_region 7 with fail
  obtain ⟨w4, hw4⟩ : ∃ x, x = w3.alloc (.cells #[.int .i64 x0, .int .i64 x1, .int .u64 x2, .int .u64 x3, .int .i64 x4, .int .i64 x5, .int .i64 x6, .int .i64 x7] 25) := ⟨_, rfl⟩
  have k4 : Blk w4 w3.heap.size 25 [.int .i64 x0, .int .i64 x1, .int .u64 x2, .int .u64 x3, .int .i64 x4, .int .i64 x5, .int .i64 x6, .int .i64 x7] := by rw [hw4]; exact Blk.new w3 _ _
  have b4 : Below w2.heap.size w2 w4 := by rw [hw4]; exact b3.alloc b3.size _
  rw [← hw4]
  have hgl := k2.lt
  replace k2 := k2.frm (ex := fun _ => False) (Frm.of_below b4) id
  have bb := hb2.trans (b4.mono hb2.size)
  obtain ⟨Q, hQ⟩ : ∃ Q, Q = w3.heap.size := ⟨_, rfl⟩
  rw [← hQ] at k4 ⊢
  have hne : G ≠ Q := by have := b3.size; omega
  clear hw4 hQ b4 b3 hb2 r2
  have z0 := k2.cell 0
  have f0 := k2.frozen 0
  have c0 := k4.cell 0
  have z1 := k2.cell 1
  have f1 := k2.frozen 1
  have c1 := k4.cell 1
  have z2 := k2.cell 2
  have f2 := k2.frozen 2
  have c2 := k4.cell 2
  have z3 := k2.cell 3
  have f3 := k2.frozen 3
  have c3 := k4.cell 3
  have z4 := k2.cell 4
  have f4 := k2.frozen 4
  have c4 := k4.cell 4
  have z5 := k2.cell 5
  have f5 := k2.frozen 5
  have c5 := k4.cell 5
  have z6 := k2.cell 6
  have f6 := k2.frozen 6
  have c6 := k4.cell 6
  have z7 := k2.cell 7
  have f7 := k2.frozen 7
  have c7 := k4.cell 7
  simp only [List.getElem?_cons_zero, List.getElem?_cons_succ] at z0 z1 z2 z3 z4 z5 z6 z7 c0 c1 c2 c3 c4 c5 c6 c7
  go_wp2
  obtain ⟨kf, bf⟩ := set8 (.int .i64 x0) (.int .i64 x1) (.int .u64 x2) (.int .u64 x3) (.int .i64 x4) (.int .i64 x5) (.int .i64 x6) (.int .i64 x7) k2 bb (by have := HG.out; omega)
  refine bodyPost_ret (results_ctt2 rfl _ _ G 25 #[.int .i64 x0, .int .i64 x1, .int .u64 x2, .int .u64 x3, .int .i64 x4, .int .i64 x5, .int .i64 x6, .int .i64 x7] (0, 0) _ rfl kf Tryd.underlying25 rfl (by kernel_rfl)) rfl ?_
  exact ⟨rfl, bf⟩
theorem readR_len (l : List UInt8) : (readR l).1.length ≤ l.length := by
  unfold readR
  split
  · simp
  · unfold endR
    split
    · simp
    · split
      · simp
      · simp only [List.length_take]; omega
/-- What both tell of the same bytes on rails. -/
theorem lifts_both (l : List UInt8) (n : Nat) (hl : l.length = n) (hm : n ≤ 140737488355328) : ∃ x0 x1 x2 x3 x4 x5 x6 x7 t f : Int,
    (∀ (A : Option Addr) (cap : Nat) (w : World), Rd w A (u8s l) → Calls Tryd.prog 16 #[.slice A n cap] w fun e w' => e = .returned (.tuple #[.agg #[.int .i64 x0, .int .i64 x1, .int .u64 x2, .int .u64 x3, .int .i64 x4, .int .i64 x5, .int .i64 x6, .int .i64 x7], .int .i64 t, .int .i64 f]) ∧ Below w.heap.size w w') ∧
    (∀ (A : Option Addr) (cap : Nat) (w : World), Rd w A (u8s l) → LayT w → Calls Tryd.prog 17 #[.slice A n cap] w fun e w' => e = .returned (.tuple #[.agg #[.int .i64 x0, .int .i64 x1, .int .u64 x2, .int .u64 x3, .int .i64 x4, .int .i64 x5, .int .i64 x6, .int .i64 x7], .int .i64 t, .int .i64 f]) ∧ Below w.heap.size w w') := by
  by_cases h : n = 54
  · obtain ⟨p, t, er, hR⟩ : ∃ p t er, readR l = (p, t, er) := ⟨_, _, _, rfl⟩
    by_cases he : er = 0
    · subst he
      obtain ⟨m, hm2⟩ : ∃ m, p.length = m := ⟨_, rfl⟩
      have hmm : m ≤ 140737488355328 := by
        have h1 : p = (readR l).1 := by rw [hR]
        rw [← hm2, h1]
        exact Nat.le_trans (readR_len l) (by omega)
      obtain ⟨x0, x1, x2, x3, x4, x5, x6, x7, f, hA, hB⟩ := reads_both p m hm2 hmm
      exact ⟨x0, x1, x2, x3, x4, x5, x6, x7, t, f, fun A cap w hr => rLift_ok A n cap m l p t x0 x1 x2 x3 x4 x5 x6 x7 f w hl h hr hR hm2 hA, fun A cap w hr hL => Lift_ok A n cap m l p t x0 x1 x2 x3 x4 x5 x6 x7 f w hl h hr hR hm2 hL hB⟩
    · exact ⟨_, _, _, _, _, _, _, _, _, _, fun A cap w hr => rLift_err A n cap l p t er w hl h hr hR he, fun A cap w hr hL => Lift_err A n cap l p t er w hl h hr hR he⟩
  · exact ⟨_, _, _, _, _, _, _, _, _, _, fun A cap w hr => rLift_no A n cap w h hm, fun A cap w hr hL => Lift_no A n cap w h hm⟩
end Go.Proofs.YtekbjcagjkcaiaaDoor
