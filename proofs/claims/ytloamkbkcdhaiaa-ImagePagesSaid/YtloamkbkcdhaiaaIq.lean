/- Walks of the document's page and Page, and of the program's Page (layer image). -/
import Derived.Test.YtloamkbkcdhaiaaIp2
import Derived.Deep.DeepCutAuto
namespace Go.Proofs.Ytloamkbkcdhaiaa
open Go.RowKit Go.Proofs.Ytloamkbkcdhaiaa.PImageChecks Go.Proofs.YtloamkbkcdhaiaaW.PrintWords
set_option linter.unusedVariables false
set_option linter.unusedSimpArgs false
theorem results_ct' {P : Program} {fn : Func} {p u : Tmp} {ty : TypeId} (h : fn.results = #[.cell p ty, .tmp u]) (tmps : Array Value) (w : World) (g : Nat) (t : TypeId) (cs : Array Value) (fr : Nat × Nat) (d : TypeDesc)
    (hp : tmps.getD p undef = .pointer (some ⟨g, 0, none⟩)) (hg : w.heap[g]? = some (.cells cs t fr))
    (hu : P.underlying ty = some d) (hd : (match d with | .struct _ | .array _ _ => true | _ => false) = true) (hi : (P.info? ty).map (·.size) = some cs.size) :
    (results fn tmps).run P w = .ok (.tuple #[.agg cs, tmps.getD u undef]) w := by
  have hp' : tmps[p]?.getD undef = .pointer (some ⟨g, 0, none⟩) := by simpa using hp
  simp [results, h, hp', asAddr, run_loadVar_row w g t ty cs fr d hg hu hd hi]
/-- How long a page is, with its spare. -/
def lgP (s : Int) : Nat := (259 * s + 54).toNat
def dtP (s : Int) : Nat := (256 * s).toNat
def spP (s : Int) : Nat := (54 + 3 * s).toNat
/-- A page's content: data, spare, error. -/
def pageT (r b p s : Int) (l : List Int) (bl pg : Int) : List Int × List Int × Int :=
  if r ≠ 0 then ([], [], r) else if bl < 0 ∨ b ≤ bl ∨ pg < 0 ∨ p ≤ pg then ([], [], 41) else
    (ptI l ((bl * p + pg).toNat * lgP s) (dtP s), ptI l ((bl * p + pg).toNat * lgP s + dtP s) (spP s), 0)
theorem set2 {w0 w6 : World} {q : Nat} {t : TypeId} {u0 u1 : Value} (v0 v1 : Value) (h : Blk w6 q t [u0, u1]) (hb : Below w0.heap.size w0 w6) (hq : w0.heap.size ≤ q) :
    Blk ((w6.setCell ⟨q, 0, none⟩ v0).setCell ⟨q, 1, none⟩ v1) q t [v0, v1] ∧ Below w0.heap.size w0 ((w6.setCell ⟨q, 0, none⟩ v0).setCell ⟨q, 1, none⟩ v1) ∧ Frm (fun k => k = q) w6 ((w6.setCell ⟨q, 0, none⟩ v0).setCell ⟨q, 1, none⟩ v1) := by
  have hf : Frm (fun k => k = q) w6 ((w6.setCell ⟨q, 0, none⟩ v0).setCell ⟨q, 1, none⟩ v1) := ((Frm.refl (fun k => k = q) w6).setCell (p := ⟨q, 0, none⟩) (fun _ => rfl) v0).setCell (p := ⟨q, 1, none⟩) (fun _ => rfl) v1
  exact ⟨(h.set_ 0 v0).set_ 1 v1, below_frm hb hb.size hf (fun k hk => by rw [hk]; exact hq), hf⟩
def PgP (T : List Int × List Int × Int) (w : World) (e : Ending) (w' : World) : Prop :=
  ∃ A5 c5 A6 c6, e = .returned (.tuple #[.agg #[.slice A5 T.1.length c5, .slice A6 T.2.1.length c6], .int .i64 T.2.2]) ∧ T.1.length ≤ c5 ∧ T.2.1.length ≤ c6 ∧ Rd w' A5 (ints T.1) ∧ Rd w' A6 (ints T.2.1) ∧ Below w.heap.size w w'
/-- Where the page stands, in numbers. -/
theorem at_facts {b p s bl pg : Int} {L : Nat} (h1 : 8 ≤ b) (h2 : b ≤ 4096) (h3 : 4 ≤ p) (h4 : p ≤ 256) (h5 : 1 ≤ s) (h6 : s ≤ 8) (hL : (L : Int) = b * p * (259 * s + 54)) (g1 : 0 ≤ bl) (g2 : bl < b) (g3 : 0 ≤ pg) (g4 : pg < p) :
    ∃ k : Nat, bl * p + pg = k ∧ IntKind.i64.wrap (bl * p) = bl * p ∧ (k : Int) < 1048576 ∧ k * lgP s + lgP s ≤ L ∧ k * lgP s < 5000000000 := by
  have e1 : 0 ≤ bl * p := Int.mul_nonneg g1 (by omega)
  have e2 : bl * p ≤ 4095 * 256 := Int.mul_le_mul (by omega) h4 (by omega) (by omega)
  have e3 : bl * p + p ≤ b * p := by
    have : (bl + 1) * p ≤ b * p := Int.mul_le_mul_of_nonneg_right (by omega) (by omega)
    rw [Int.add_mul, Int.one_mul] at this
    exact this
  refine ⟨(bl * p + pg).toNat, by omega, by rw [IntKind.wrap_i64]; omega, by omega, ?_, ?_⟩
  · have hk : ((bl * p + pg).toNat : Int) + 1 ≤ b * p := by omega
    have hl : (lgP s : Int) = 259 * s + 54 := by unfold lgP; omega
    have e4 : (((bl * p + pg).toNat : Int) + 1) * (259 * s + 54) ≤ b * p * (259 * s + 54) := Int.mul_le_mul_of_nonneg_right hk (by omega)
    rw [Int.add_mul, Int.one_mul, ← hL, ← hl] at e4
    omega
  · have hl : lgP s ≤ 2126 := by unfold lgP; omega
    have hk : (bl * p + pg).toNat ≤ 1048576 := by omega
    have := Nat.mul_le_mul hk hl
    omega
set_option maxRecDepth 100000 in
set_option maxHeartbeats 3200000 in
/-- The document's page. -/
theorem page_any (b p s : Int) (A : Option Addr) (n c : Nat) (A2 : Option Addr) (n2 c2 : Nat) (l : List Int) (k : Nat) (w : World) (hl : l.length = n) (hr : Rd w A (ints l)) (hm : n ≤ 140737488351232) (h5 : 1 ≤ s) (h6 : s ≤ 8) (hk : (k : Int) < 1048576) (hk2 : k * lgP s + lgP s ≤ n) (hk3 : k * lgP s < 5000000000) :
    Calls Try.prog 23 #[.agg #[.int .i64 b, .int .i64 p, .int .i64 s, .slice A n c, .slice A2 n2 c2], .int .i64 (k : Int)] w fun e w' => ∃ A5 c5, e = .returned (.slice A5 (lgP s) c5) ∧ lgP s ≤ c5 ∧ Rd w' A5 (ints (ptI l (k * lgP s) (lgP s))) ∧ Below w.heap.size w w' := by
  obtain ⟨w2, hw2⟩ : ∃ w2, w2 = w.alloc (.cells #[.int .i64 b, .int .i64 p, .int .i64 s, .slice A n c, .slice A2 n2 c2] 27) := ⟨_, rfl⟩
  have hB : Below w.heap.size w w2 := by rw [hw2]; exact (Below.refl _ w).alloc (Nat.le_refl _) _
  have kg : Blk w2 w.heap.size 27 [.int .i64 b, .int .i64 p, .int .i64 s, .slice A n c, .slice A2 n2 c2] := by rw [hw2]; exact Blk.new w _ [.int .i64 b, .int .i64 p, .int .i64 s, .slice A n c, .slice A2 n2 c2]
  have hlg : (lgP s : Int) = 259 * s + 54 := by unfold lgP; omega
  have hlong : ∀ wx, Calls Try.prog 22 #[.agg #[.int .i64 b, .int .i64 p, .int .i64 s]] wx fun e w' => e = .returned (.int .i64 (lgP s : Int)) ∧ Below wx.heap.size wx w' := fun wx => by
    refine shaleref20_long.calls b p s (lgP s : Int) wx ?_
    unfold shaleref20_long.f shaleref20_spare.f
    rw [show wrap64 (3 * s) = 3 * s by unfold wrap64; omega, show wrap64 (54 + 3 * s) = 54 + 3 * s by unfold wrap64; omega, show wrap64 (256 * s) = 256 * s by unfold wrap64; omega, Option.bind_some, show wrap64 (256 * s + (54 + 3 * s)) = (lgP s : Int) by unfold wrap64; omega]
  generalize lgP s = L at *
  obtain ⟨at1, hat1⟩ : ∃ x, x = k * L := ⟨_, rfl⟩
  obtain ⟨at2, hat2⟩ : ∃ x, x = at1 + L := ⟨_, rfl⟩
  have e1 : IntKind.i64.wrap ((k : Int) * (L : Int)) = (at1 : Int) := by rw [← Int.natCast_mul, ← hat1, IntKind.wrap_i64]; omega
  have e2 : IntKind.i64.wrap ((k : Int) + 1) = ((k + 1 : Nat) : Int) := by rw [IntKind.wrap_i64]; omega
  have e3 : IntKind.i64.wrap (((k + 1 : Nat) : Int) * (L : Int)) = (at2 : Int) := by rw [show ((k + 1 : Nat) : Int) * (L : Int) = ((k * L + L : Nat) : Int) by rw [← Int.natCast_mul, Nat.add_mul, Nat.one_mul], ← hat1, ← hat2, IntKind.wrap_i64]; omega
  have hC := fun wx (hb : Below w2.heap.size w2 wx) => cells5 (kg.frm (ex := fun _ => False) (Frm.of_below hb) id)
  have hP := fun wx (hb : Below w2.heap.size w2 wx) => part_any A n c at1 L at2 l wx hl ((hr.below hB).below hb) hm hat2 (by omega)
  have HC := Lib.hid hC
  have HP := Lib.hid hP
  have HAT := Lib.hid hat1
  obtain ⟨G, hG⟩ : ∃ G, G = w.heap.size := ⟨_, rfl⟩
  have HG := Lib.hid hG
  rw [← hG] at kg HC
  obtain ⟨k1, hk1⟩ : ∃ x, x = k + 1 := ⟨_, rfl⟩
  rw [← hk1] at e2 e3
  rw [← hat1]
  clear hC hP hr hlg hm hk2 hk3 hk h5 h6 kg hat1 hat2 hk1
  go_enter Try.func23, Try.ntmps23
  go_upto_region 1 with fail
  rw [← hw2, ← hG]
  clear hw2 hG
  have b0 : Below w2.heap.size w2 w2.drew := bel_drew (Below.refl _ _)
  go_region_held3 (fun wx => wx.cell? ⟨G, 0, none⟩ = some (.int .i64 b) ∧ wx.cell? ⟨G, 1, none⟩ = some (.int .i64 p) ∧ wx.cell? ⟨G, 2, none⟩ = some (.int .i64 s) ∧ wx.cell? ⟨G, 3, none⟩ = some (.slice A n c) ∧ wx.cell? ⟨G, 4, none⟩ = some (.slice A2 n2 c2)) (exact HC.out _ (by assumption)) (first
    | (go_at_call 22; (with_reducible refine (hlong _).mono ?_); rintro e w' ⟨rfl, hb6⟩; replace b0 := b0.trans (hb6.mono b0.size); clear hb6; dsimp only)
    | (go_at_call 24; (with_reducible refine (HP.out _ b0).mono ?_); rintro e w' ⟨A5, c5, rfl, hc5, hf5, hr5, hb6⟩; replace b0 := b0.trans (hb6.mono b0.size); clear hb6; dsimp only))
  all_goals
    go_wp2
    go_ret
    exact ⟨_, _, rfl, by assumption, by assumption, hB.trans (Below.mono (by assumption) hB.size)⟩
set_option maxRecDepth 100000 in
set_option maxHeartbeats 3200000 in
/-- The document's Page. -/
theorem rPage_any (b p s : Int) (A : Option Addr) (n c : Nat) (A2 : Option Addr) (n2 c2 : Nat) (l : List Int) (lb : List Bool) (bl pg r : Int) (w : World) (hl : l.length = n) (hlb : lb.length = n2) (hr : Rd w A (ints l)) (hrb : Rd w A2 (bools lb)) (hm : n ≤ 140737488351232) (hm2 : n2 ≤ 140737488351232) (hc : n ≤ c) (hc2 : n2 ≤ c2) (hCK : shaleref20_Check.f b p s l lb = some r) :
    Calls Try.prog 12 #[.agg #[.int .i64 b, .int .i64 p, .int .i64 s, .slice A n c, .slice A2 n2 c2], .agg #[.int .i64 bl, .int .i64 pg]] w (PgP (pageT r b p s l bl pg) w) := by
  obtain ⟨w2, hw2⟩ : ∃ w2, w2 = ((w.alloc (.cells #[.int .i64 b, .int .i64 p, .int .i64 s, .slice A n c, .slice A2 n2 c2] 27)).alloc (.cells #[.int .i64 bl, .int .i64 pg] 38)).alloc (.cells #[.slice none 0 0, .slice none 0 0] 40) := ⟨_, rfl⟩
  have hB : Below w.heap.size w w2 := by rw [hw2]; exact (((Below.refl _ w).alloc (Nat.le_refl _) _).alloc (by simp) _).alloc (by simp; omega) _
  have kg : Blk w2 w.heap.size 27 [.int .i64 b, .int .i64 p, .int .i64 s, .slice A n c, .slice A2 n2 c2] := by rw [hw2]; exact ((Blk.new w _ [.int .i64 b, .int .i64 p, .int .i64 s, .slice A n c, .slice A2 n2 c2]).alloc _).alloc _
  have kp : Blk w2 (w.heap.size + 1) 38 [.int .i64 bl, .int .i64 pg] := by
    have h := (Blk.new (w.alloc (.cells #[.int .i64 b, .int .i64 p, .int .i64 s, .slice A n c, .slice A2 n2 c2] 27)) 38 [.int .i64 bl, .int .i64 pg]).alloc (.cells #[.slice none 0 0, .slice none 0 0] 40)
    rw [World.size_alloc] at h
    rw [hw2]; exact h
  have kz : Blk w2 (w.heap.size + 2) 40 [.slice none 0 0, .slice none 0 0] := by
    have h := Blk.new ((w.alloc (.cells #[.int .i64 b, .int .i64 p, .int .i64 s, .slice A n c, .slice A2 n2 c2] 27)).alloc (.cells #[.int .i64 bl, .int .i64 pg] 38)) 40 [.slice none 0 0, .slice none 0 0]
    rw [World.size_alloc, World.size_alloc] at h
    rw [hw2]; exact h
  have hRC : ∀ wx, Rd wx A (ints l) → Rd wx A2 (bools lb) → Calls Try.prog 9 #[.agg #[.int .i64 b, .int .i64 p, .int .i64 s, .slice A n c, .slice A2 n2 c2]] wx fun e w' => e = .returned (.int .i64 r) ∧ Below wx.heap.size wx w' := fun wx h1 h2 => by
    have h := shaleref20_Check.calls b p s A c l A2 c2 lb r wx (C_ints rfl (by omega) h1) (by omega) (C_bools rfl (by omega) h2) (by omega) hCK
    rw [hl, hlb] at h
    exact h
  have hck := hRC w2 (hr.below hB) (hrb.below hB)
  obtain ⟨G, hG⟩ : ∃ G, G = w.heap.size := ⟨_, rfl⟩
  rw [← hG] at kg kp kz
  have HG := Lib.hid hG
  have hr2 := hr.below hB
  have HL := Lib.hid hl
  have HCK := Lib.hid hCK
  clear hRC hr hrb hl hlb hm2 hc hc2
  obtain ⟨g0, g1, g2, g3, g4⟩ := cells5 kg
  obtain ⟨TT, hT⟩ : ∃ T, T = pageT r b p s l bl pg := ⟨_, rfl⟩
  rw [← hT]
  have HT := Lib.hid hT
  clear hT
  go_enter Try.func12, Try.ntmps12
  go_wp2_with fail
  rw [← hw2, ← hG]
  clear hw2 hG
  with_reducible refine hck.mono ?_
  rintro e w3 ⟨rfl, b3⟩
  clear hck g0 g1 g2 g3 g4
  replace kg := kg.frm (ex := fun _ => False) (Frm.of_below b3) id
  replace kp := kp.frm (ex := fun _ => False) (Frm.of_below b3) id
  replace kz := kz.frm (ex := fun _ => False) (Frm.of_below b3) id
  replace hr2 := hr2.below b3
  replace hB := hB.trans (b3.mono hB.size)
  clear b3
  obtain ⟨g0, g1, g2, g3, g4⟩ := cells5 kg
  have p0 : w3.cell? ⟨G + 1, 0, none⟩ = some (.int .i64 bl) := kp.cell 0
  have p1 : w3.cell? ⟨G + 1, 1, none⟩ = some (.int .i64 pg) := kp.cell 1
  have z0 : w3.cell? ⟨G + 2, 0, none⟩ = some (.slice none 0 0) := kz.cell 0
  have z1 : w3.cell? ⟨G + 2, 1, none⟩ = some (.slice none 0 0) := kz.cell 1
  have f0 := kz.frozen 0
  have f1 := kz.frozen 1
  by_cases hr0 : r = 0
  · subst hr0
    obtain ⟨c1, c2', c3, c4, c5, c6, c7, c8, c9, c10⟩ := ck_zero hCK
    clear hCK
    by_cases hout : bl < 0 ∨ b ≤ bl ∨ pg < 0 ∨ p ≤ pg
    · have hpt : pageT 0 b p s l bl pg = ([], [], 41) := by unfold pageT; rw [if_neg (by simp), if_pos hout]
      obtain rfl := HT.out.trans hpt
      clear c1 c2' c3 c4 c5 c6 c7 c8 c9 c10 hpt HT
      by_cases h1 : bl < 0
      rotate_left
      by_cases h2 : b ≤ bl
      rotate_left
      by_cases h3 : pg < 0
      rotate_left
      have h4 : p ≤ pg := by omega
      all_goals
        (clear hout
         go_wp2
         refine bodyPost_ret (results_ct' rfl _ _ (G + 2) 40 #[.slice none 0 0, .slice none 0 0] (0, 0) _ rfl (set2 (.slice none 0 0) (.slice none 0 0) kz hB (by have := HG.out; omega)).1 Try.underlying40 rfl (by kernel_rfl)) rfl ?_
         exact ⟨none, 0, none, 0, rfl, Nat.le_refl _, Nat.le_refl _, Rd.nil _ _, Rd.nil _ _, (set2 (.slice none 0 0) (.slice none 0 0) kz hB (by have := HG.out; omega)).2.1⟩)
    · have q1 : ¬ bl < 0 := by omega
      have q2 : ¬ b ≤ bl := by omega
      have q3 : ¬ pg < 0 := by omega
      have q4 : ¬ p ≤ pg := by omega
      obtain ⟨k, hk, hw1, hk1, hk2, hk3⟩ := at_facts (bl := bl) (pg := pg) (L := l.length) c1 c2' c3 c4 c5 c6 c9 (by omega) (by omega) (by omega) (by omega)
      have hpt : pageT 0 b p s l bl pg = (ptI l (k * lgP s) (dtP s), ptI l (k * lgP s + dtP s) (spP s), 0) := by unfold pageT; rw [if_neg (by simp), if_neg hout, hk]; rfl
      obtain rfl := HT.out.trans hpt
      clear HT hpt
      have hd1 : (dtP s : Int) = 256 * s := by unfold dtP; omega
      have hsp1 : (spP s : Int) = 54 + 3 * s := by unfold spP; omega
      have hlg : (lgP s : Int) = 259 * s + 54 := by unfold lgP; omega
      have hsum : dtP s + spP s = lgP s := by omega
      have hll := HL.out
      have hpg := fun wx hrx => page_any b p s A n c A2 n2 c2 l k wx hll hrx hm c5 c6 hk1 (by omega) hk3
      have hw2 : IntKind.i64.wrap (bl * p + pg) = (k : Int) := by rw [hk, IntKind.wrap_i64]; omega
      have hw3 : IntKind.i64.wrap (256 * s) = (dtP s : Int) := by rw [hd1, IntKind.wrap_i64]; omega
      have hlq : (ptI l (k * lgP s) (lgP s)).length = lgP s := ptI_len _ _ _ (by omega)
      have pp1 : ∀ wx A' c', Rd wx A' (ints (ptI l (k * lgP s) (lgP s))) → Calls Try.prog 24 #[.slice A' (lgP s) c', .int .i64 0, .int .i64 (dtP s : Int)] wx fun e w' => ∃ A2 c2, e = .returned (.slice A2 (dtP s) c2) ∧ dtP s ≤ c2 ∧ (∀ q, (Value.slice A2 (dtP s) c2).ownBlock = some q → wx.heap.size ≤ q) ∧ Rd w' A2 (ints (ptI l (k * lgP s) (dtP s))) ∧ Below wx.heap.size wx w' := fun wx A' c' hrx => by
        have h := part_any A' (lgP s) c' 0 (dtP s) (dtP s) _ wx hlq hrx (by omega) (by omega) (by omega)
        rw [ptI_ptI _ _ _ _ _ (by omega)] at h
        exact h
      have pp2 : ∀ wx A' c', Rd wx A' (ints (ptI l (k * lgP s) (lgP s))) → Calls Try.prog 24 #[.slice A' (lgP s) c', .int .i64 (dtP s : Int), .int .i64 (lgP s : Int)] wx fun e w' => ∃ A2 c2, e = .returned (.slice A2 (spP s) c2) ∧ spP s ≤ c2 ∧ (∀ q, (Value.slice A2 (spP s) c2).ownBlock = some q → wx.heap.size ≤ q) ∧ Rd w' A2 (ints (ptI l (k * lgP s + dtP s) (spP s))) ∧ Below wx.heap.size wx w' := fun wx A' c' hrx => by
        have h := part_any A' (lgP s) c' (dtP s) (spP s) (lgP s) _ wx hlq hrx (by omega) (by omega) (by omega)
        rw [ptI_ptI _ _ _ _ _ (by omega)] at h
        exact h
      have hl1 : (ptI l (k * lgP s) (dtP s)).length = dtP s := ptI_len _ _ _ (by omega)
      have hl2 : (ptI l (k * lgP s + dtP s) (spP s)).length = spP s := ptI_len _ _ _ (by omega)
      have HL1 := Lib.hid hl1
      have HL2 := Lib.hid hl2
      have hpg2 := hpg w3 hr2
      generalize ptI l (k * lgP s + dtP s) (spP s) = SP at *
      generalize ptI l (k * lgP s) (dtP s) = DT at *
      generalize ptI l (k * lgP s) (lgP s) = PA at *
      clear hlq hl1 hl2 hpg hll hsum hlg hsp1 hd1 hk1 hk2 hk3 hk hout HCK c1 c2' c3 c4 c5 c6 c7 c8 c9 c10 HL hr2
      generalize lgP s = L at *
      generalize dtP s = D at *
      generalize spP s = S at *
      go_wp2_with fail
      with_reducible refine hpg2.mono ?_
      rintro e w4 ⟨A5, c5, rfl, hc5, r5, b4⟩
      clear hpg2 g0 g1 g2 g3 g4 p0 p1 z0 z1 f0 f1
      replace kg := kg.frm (ex := fun _ => False) (Frm.of_below b4) id
      replace kz := kz.frm (ex := fun _ => False) (Frm.of_below b4) id
      replace hB := hB.trans (b4.mono hB.size)
      obtain ⟨g0, g1, g2, g3, g4⟩ := cells5 kg
      clear b4
      go_wp2_with fail
      have kzl := kz.lt
      with_reducible refine (pp1 _ _ _ r5).mono ?_
      rintro e w5 ⟨A6, c6, rfl, hc6, f6, r6, b4⟩
      clear g0 g1 g2 g3 g4 pp1
      replace kz := kz.frm (ex := fun _ => False) (Frm.of_below b4) id
      replace hB := hB.trans (b4.mono hB.size)
      replace r5 := r5.below b4
      clear b4 kg
      go_wp2_with fail
      have kzl2 := kz.lt
      with_reducible refine (pp2 _ _ _ r5).mono ?_
      rintro e w6 ⟨A7, c7, rfl, hc7, f7, r7, b4⟩
      replace kz := kz.frm (ex := fun _ => False) (Frm.of_below b4) id
      replace hB := hB.trans (b4.mono hB.size)
      replace r6 := r6.below b4
      have z0 : w6.cell? ⟨G + 2, 0, none⟩ = some (.slice none 0 0) := kz.cell 0
      have z1 : w6.cell? ⟨G + 2, 1, none⟩ = some (.slice none 0 0) := kz.cell 1
      have f0 := kz.frozen 0
      have f1 := kz.frozen 1
      have ns := HG.out
      obtain ⟨kf, bf, ff⟩ := set2 (.slice A6 D c6) (.slice A7 S c7) kz hB (by omega)
      clear b4 pp2 r5 ns
      go_wp2
      refine bodyPost_ret (results_ct' rfl _ _ (G + 2) 40 #[.slice A6 D c6, .slice A7 S c7] (0, 0) _ rfl kf Try.underlying40 rfl (by kernel_rfl)) rfl ?_
      refine ⟨A6, c6, A7, c7, by rw [show (DT, SP, (0 : Int)).1.length = D from HL1.out, show (DT, SP, (0 : Int)).2.1.length = S from HL2.out]; rfl, by rw [show (DT, SP, (0 : Int)).1.length = D from HL1.out]; exact hc6, by rw [show (DT, SP, (0 : Int)).2.1.length = S from HL2.out]; exact hc7, r6.frm ff ?_, r7.frm ff ?_, bf⟩
      · intro ad e hq
        have h1 := f6 ad.block (by rw [e]; rfl)
        have h2 : ad.block = G + 2 := hq
        omega
      · intro ad e hq
        have h1 := f7 ad.block (by rw [e]; rfl)
        have h2 : ad.block = G + 2 := hq
        omega
  · have hpt : pageT r b p s l bl pg = ([], [], r) := by unfold pageT; rw [if_pos hr0]
    obtain rfl := HT.out.trans hpt
    clear hCK hpt HT
    go_wp2
    refine bodyPost_ret (results_ct' rfl _ _ (G + 2) 40 #[.slice none 0 0, .slice none 0 0] (0, 0) _ rfl (set2 (.slice none 0 0) (.slice none 0 0) kz hB (by have := HG.out; omega)).1 Try.underlying40 rfl (by kernel_rfl)) rfl ?_
    exact ⟨none, 0, none, 0, rfl, Nat.le_refl _, Nat.le_refl _, Rd.nil _ _, Rd.nil _ _, (set2 (.slice none 0 0) (.slice none 0 0) kz hB (by have := HG.out; omega)).2.1⟩
end Go.Proofs.Ytloamkbkcdhaiaa
