/- Tags read from bytes: the program's Read and the document's; are tags the same? -/
import Derived.Test.YtekbjcagjkcaiaaDoorTg
import Derived.Deep.RegionHeld3
import Derived.Deep.DeepCutAuto
import Derived.Deep.CutBlock
namespace Go.Proofs.YtekbjcagjkcaiaaDoor
open Go.RowKit
set_option linter.unusedVariables false
set_option linter.unusedSimpArgs false
theorem same_tags (x0 x1 x2 x3 x4 x5 x6 x7 : Int) (w : World) :
    Calls Tryd.prog 14 #[.agg #[.int .i64 x0, .int .i64 x1, .int .u64 x2, .int .u64 x3, .int .i64 x4, .int .i64 x5, .int .i64 x6, .int .i64 x7], .agg #[.int .i64 x0, .int .i64 x1, .int .u64 x2, .int .u64 x3, .int .i64 x4, .int .i64 x5, .int .i64 x6, .int .i64 x7]] w fun e w' => e = .returned (.bool true) ∧ Below w.heap.size w w' := by
  go_enter Tryd.func14, Tryd.ntmps14
  go_wp2
  go_ret
  exact ⟨rfl, ((Below.refl _ w).alloc (Nat.le_refl _) _).alloc (by simp) _⟩
theorem le_drop (l : List UInt8) (k : Nat) (h : k < l.length) : le (l.drop k) = (bt l k).toNat + 256 * le (l.drop (k + 1)) := by
  have e : l.drop k = bt l k :: l.drop (k + 1) := by
    rw [List.drop_eq_getElem_cons h]
    congr 1
    simp [bt, h]
  rw [e, le]
theorem le_bd (l : List UInt8) (k : Nat) (h : l.length ≤ k) : le l < 256 ^ k := Nat.lt_of_lt_of_le (le_lt l) (Nat.pow_le_pow_right (by decide) h)
def intP : Value → Nat
  | .int _ x => (x + 1).toNat
  | _ => 0
set_option maxHeartbeats 1600000 in
theorem high_any (A : Option Addr) (n cap : Nat) (l : List UInt8) (w : World) (hl : l.length = n) (hr : Rd w A (u8s l)) (hn : n ≤ 8) :
    Calls Tryd.prog 27 #[.slice A n cap] w fun e w' => e = .returned (.int .u64 ((le l : Nat) : Int)) ∧ w = w' := by
  have HL := Lib.hid hl
  clear hl
  go_enter Tryd.func27, Tryd.ntmps27
  go_wp2
  go_loopw [3, 4] (fun v i wr => ∃ k : Nat, k ≤ n ∧ i = .int .i64 ((k : Int) - 1) ∧ v = .int .u64 ((le (l.drop k) : Nat) : Int) ∧ wr = w) (fun _ i _ => intP i)
  case atStart =>
    refine ⟨n, Nat.le_refl _, rfl, ?_, rfl⟩
    rw [List.drop_eq_nil_of_le (by rw [HL.out]; exact Nat.le_refl _)]
    rfl
  case round =>
    obtain ⟨k, hk, rfl, rfl, rfl⟩ := hrel
    by_cases h0 : 0 < k
    · obtain ⟨j, rfl⟩ : ∃ j, k = j + 1 := ⟨k - 1, by omega⟩
      obtain ⟨ad, rfl, hc⟩ := hr.at_ (k := j) (u8s_bt l j (by have := HL.out; omega))
      have hb := bv_lt (bt l j)
      have hle := le_bd (l.drop (j + 1)) 7 (by rw [List.length_drop]; have := HL.out; omega)
      have hst : ((le (l.drop (j + 1)) : Nat) : Int) * 256 + ((bt l j).toNat : Int) = ((le (l.drop j) : Nat) : Int) := by
        rw [le_drop l j (by have := HL.out; omega)]
        omega
      have hj : (((j + 1 : Nat) : Int) - 1) = (j : Int) := by omega
      rw [hj]
      generalize le (l.drop (j + 1)) = v at *
      obtain ⟨v', hv'⟩ : ∃ v', v' = le (l.drop j) := ⟨_, rfl⟩
      rw [← hv'] at hst
      have HV := Lib.hid hv'
      clear hv'
      go_wp2
      go_roundw
      case rel => exact ⟨j, by omega, by go_num, by rw [HV.out], trivial⟩
      case measure => simp [intP]
    · obtain rfl : k = 0 := by omega
      go_wp2
      go_ret
      exact ⟨by simp, rfl⟩
theorem results_ct' {P : Program} {fn : Func} {p u : Tmp} {ty : TypeId} (h : fn.results = #[.cell p ty, .tmp u]) (tmps : Array Value) (w : World) (g : Nat) (t : TypeId) (cs : Array Value) (fr : Nat × Nat) (d : TypeDesc)
    (hp : tmps.getD p undef = .pointer (some ⟨g, 0, none⟩)) (hg : w.heap[g]? = some (.cells cs t fr))
    (hu : P.underlying ty = some d) (hd : (match d with | .struct _ | .array _ _ => true | _ => false) = true) (hi : (P.info? ty).map (·.size) = some cs.size) :
    (results fn tmps).run P w = .ok (.tuple #[.agg cs, tmps.getD u undef]) w := by
  have hp' : tmps[p]?.getD undef = .pointer (some ⟨g, 0, none⟩) := by simpa using hp
  simp [results, h, hp', asAddr, run_loadVar_row w g t ty cs fr d hg hu hd hi]
theorem rd_part {w : World} {ad : Addr} {l : List UInt8} (i k : Nat) (h : Rd w (some ad) (u8s l)) : Rd w (some (ad.add i)) (u8s (part l i k)) := fun hne => ⟨ad.add i, rfl, fun j u hu => by
  have hj : (u8s l)[i + j]? = some u := by
    unfold u8s part at *
    rw [List.getElem?_map] at hu ⊢
    rw [List.getElem?_take] at hu
    split at hu
    · rw [List.getElem?_drop] at hu; exact hu
    · cases hu
  obtain ⟨ad', e, hc⟩ := h (by intro e; rw [e] at hj; cases hj)
  cases e
  have h2 := hc _ _ hj
  rw [Addr.add_add]
  exact h2⟩
/-- The number in k bytes from the place i on. -/
def fld (l : List UInt8) (i k : Nat) : Nat := le (part l i k)
theorem fld_lt (l : List UInt8) (i k : Nat) : fld l i k < 256 ^ k := le_bd _ _ (by unfold part; rw [List.length_take]; omega)
theorem fld_one (l : List UInt8) (i : Nat) (h : i < l.length) : fld l i 1 = (bt l i).toNat := by
  unfold fld
  rw [part_succ l i 0 (by omega)]
  simp [part, le]
def tagV (l : List UInt8) : Value := .agg #[.int .i64 (fld l 0 1 : Nat), .int .i64 (fld l 1 1 : Nat), .int .u64 (fld l 2 6 : Nat), .int .u64 (fld l 8 6 : Nat), .int .i64 (fld l 14 4 : Nat), .int .i64 (fld l 18 4 : Nat), .int .i64 (fld l 22 2 : Nat), .int .i64 (fld l 24 2 : Nat)]
def tagZ : Value := .agg #[.int .i64 0, .int .i64 0, .int .u64 0, .int .u64 0, .int .i64 0, .int .i64 0, .int .i64 0, .int .i64 0]
theorem wrap_small (x : Nat) (h : x < 9223372036854775808) : IntKind.i64.wrap (x : Int) = (x : Int) := by rw [IntKind.wrap_i64]; omega
theorem add_pos (ad : Addr) (i : Nat) (h : 0 < i) : ad.add i = ⟨ad.block, ad.off + i, none⟩ := by
  have : i ≠ 0 := by omega
  simp [Addr.add, this]
theorem sl_mid (ad : Addr) (m c i k : Nat) (x y : Int) (hx : x = i) (hy : y = (i + k : Nat)) (h : i + k ≤ c) (hk : 0 < k) (hi : 0 < i) (w : World) : (Instr.slice 22 (.slice (some ad) m c) (some (.int .i64 x)) (some (.int .i64 y)) none).run Tryd.prog w = .ok (.slice (some ⟨ad.block, ad.off + i, none⟩) k (c - i)) w := by
  subst hx hy
  rw [← add_pos ad i hi]
  rw [run_slice_lh w _ _ _ _ Tryd.underlying22 .i64 .i64 (i : Int) ((i + k : Nat) : Int) (by omega) (by omega) (by omega), show (sizeOf (Tryd.prog.elem 22)).run Tryd.prog w = .ok 1 w from by kernel_rfl]
  have h1 : ¬ c = i := by omega
  have h2 : ((i : Int) + (k : Int)).toNat - i = k := by omega
  simp [Result.andThen, sliced, h1, h2]
theorem two_of {wx : World} {ad : Addr} {l : List UInt8} (hl : l.length = 26) (h : Rd wx (some ad) (u8s l)) : wx.cell? ad = some (.int .u8 ((fld l 0 1 : Nat) : Int)) ∧ wx.cell? ⟨ad.block, ad.off + 1, none⟩ = some (.int .u8 ((fld l 1 1 : Nat) : Int)) := by
  obtain ⟨_, e0, hc0⟩ := h.at_ (k := 0) (u8s_bt l 0 (by omega))
  cases e0
  obtain ⟨_, e1, hc1⟩ := h.at_ (k := 1) (u8s_bt l 1 (by omega))
  cases e1
  rw [← fld_one l 0 (by omega)] at hc0
  rw [← fld_one l 1 (by omega)] at hc1
  rw [addr_zero] at hc0
  exact ⟨hc0, by simpa [Addr.add] using hc1⟩
theorem set8 {w0 w6 : World} {q : Nat} {t : TypeId} {u0 u1 u2 u3 u4 u5 u6 u7 : Value} (v0 v1 v2 v3 v4 v5 v6 v7 : Value) (h : Blk w6 q t [u0, u1, u2, u3, u4, u5, u6, u7]) (hb : Below w0.heap.size w0 w6) (hq : w0.heap.size ≤ q) :
    Blk ((((((((w6.setCell ⟨q, 0, none⟩ v0).setCell ⟨q, 1, none⟩ v1).setCell ⟨q, 2, none⟩ v2).setCell ⟨q, 3, none⟩ v3).setCell ⟨q, 4, none⟩ v4).setCell ⟨q, 5, none⟩ v5).setCell ⟨q, 6, none⟩ v6).setCell ⟨q, 7, none⟩ v7) q t [v0, v1, v2, v3, v4, v5, v6, v7] ∧ Below w0.heap.size w0 ((((((((w6.setCell ⟨q, 0, none⟩ v0).setCell ⟨q, 1, none⟩ v1).setCell ⟨q, 2, none⟩ v2).setCell ⟨q, 3, none⟩ v3).setCell ⟨q, 4, none⟩ v4).setCell ⟨q, 5, none⟩ v5).setCell ⟨q, 6, none⟩ v6).setCell ⟨q, 7, none⟩ v7) := by
  have hf : Frm (fun k => k = q) w6 ((((((((w6.setCell ⟨q, 0, none⟩ v0).setCell ⟨q, 1, none⟩ v1).setCell ⟨q, 2, none⟩ v2).setCell ⟨q, 3, none⟩ v3).setCell ⟨q, 4, none⟩ v4).setCell ⟨q, 5, none⟩ v5).setCell ⟨q, 6, none⟩ v6).setCell ⟨q, 7, none⟩ v7) := ((((((((Frm.refl (fun k => k = q) w6).setCell (p := ⟨q, 0, none⟩) (fun _ => rfl) v0).setCell (p := ⟨q, 1, none⟩) (fun _ => rfl) v1).setCell (p := ⟨q, 2, none⟩) (fun _ => rfl) v2).setCell (p := ⟨q, 3, none⟩) (fun _ => rfl) v3).setCell (p := ⟨q, 4, none⟩) (fun _ => rfl) v4).setCell (p := ⟨q, 5, none⟩) (fun _ => rfl) v5).setCell (p := ⟨q, 6, none⟩) (fun _ => rfl) v6).setCell (p := ⟨q, 7, none⟩) (fun _ => rfl) v7
  exact ⟨((((((((h.set_ 0 v0).set_ 1 v1).set_ 2 v2).set_ 3 v3).set_ 4 v4).set_ 5 v5).set_ 6 v6).set_ 7 v7), below_frm hb hb.size hf (fun k hk => by rw [hk]; exact hq)⟩
def TagA (w wx : World) (x0 x1 x2 x3 : Nat) (a : Value) : Prop :=
  a = .pointer (some ⟨w.heap.size, 0, none⟩) ∧ wx = (w.alloc (.cells #[.int .i64 (x0 : Int), .int .i64 (x1 : Int), .int .u64 (x2 : Int), .int .u64 (x3 : Int), .int .i64 0, .int .i64 0, .int .i64 0, .int .i64 0] 25)).drew
set_option maxHeartbeats 3200000 in
theorem rRead_ok (A : Option Addr) (n cap : Nat) (l : List UInt8) (w : World) (hl : l.length = n) (hn : n = 26) (hcap : n ≤ cap) (hr : Rd w A (u8s l)) :
    Calls Tryd.prog 10 #[.slice A n cap] w fun e w' => e = .returned (.tuple #[tagV l, .int .i64 0]) ∧ Below w.heap.size w w' := by
  subst hn
  obtain ⟨ad, rfl, hc0⟩ := hr.at_ (k := 0) (u8s_bt l 0 (by omega))
  have hT := fun wx (h : Rd wx (some ad) (u8s l)) => two_of hl h
  clear hc0
  have hH := fun i k (hi : 0 < i) (hk : k ≤ 8) (h : i + k ≤ 26) c wx (hrx : Rd wx (some ad) (u8s l)) => high_any (some ⟨ad.block, ad.off + i, none⟩) k c (part l i k) wx (part_len l i k (by omega)) (by rw [← add_pos ad i hi]; exact rd_part i k hrx) hk
  have h2 := hH 2 6 (by omega) (by omega) (by omega)
  have h8 := hH 8 6 (by omega) (by omega) (by omega)
  have h14 := hH 14 4 (by omega) (by omega) (by omega)
  have h18 := hH 18 4 (by omega) (by omega) (by omega)
  have h22 := hH 22 2 (by omega) (by omega) (by omega)
  have h24 := hH 24 2 (by omega) (by omega) (by omega)
  clear hH
  have b0 := fld_lt l 0 1
  have b1 := fld_lt l 1 1
  have b2 := fld_lt l 2 6
  have b3 := fld_lt l 8 6
  have b4 := fld_lt l 14 4
  have b5 := fld_lt l 18 4
  have b6 := fld_lt l 22 2
  have b7 := fld_lt l 24 2
  simp only [show (256:Nat) ^ 1 = 256 from rfl, show (256:Nat) ^ 6 = 281474976710656 from rfl, show (256:Nat) ^ 4 = 4294967296 from rfl, show (256:Nat) ^ 2 = 65536 from rfl] at b0 b1 b2 b3 b4 b5 b6 b7
  unfold tagV
  rw [show le (part l 2 6) = fld l 2 6 from rfl] at h2
  rw [show le (part l 8 6) = fld l 8 6 from rfl] at h8
  rw [show le (part l 14 4) = fld l 14 4 from rfl] at h14
  rw [show le (part l 18 4) = fld l 18 4 from rfl] at h18
  rw [show le (part l 22 2) = fld l 22 2 from rfl] at h22
  rw [show le (part l 24 2) = fld l 24 2 from rfl] at h24
  generalize fld l 0 1 = x0 at *
  generalize fld l 1 1 = x1 at *
  generalize fld l 2 6 = x2 at *
  generalize fld l 8 6 = x3 at *
  generalize fld l 14 4 = x4 at *
  generalize fld l 18 4 = x5 at *
  generalize fld l 22 2 = x6 at *
  generalize fld l 24 2 = x7 at *
  obtain ⟨w1, hw1⟩ : ∃ w1, w1 = w.alloc (.cells #[.int .i64 0, .int .i64 0, .int .u64 0, .int .u64 0, .int .i64 0, .int .i64 0, .int .i64 0, .int .i64 0] 25) := ⟨_, rfl⟩
  have hB : Below w.heap.size w w1 := by rw [hw1]; exact (Below.refl _ w).alloc (Nat.le_refl _) _
  have hk : Blk w1 w.heap.size 25 [.int .i64 0, .int .i64 0, .int .u64 0, .int .u64 0, .int .i64 0, .int .i64 0, .int .i64 0, .int .i64 0] := by rw [hw1]; exact Blk.new w _ [.int .i64 0, .int .i64 0, .int .u64 0, .int .u64 0, .int .i64 0, .int .i64 0, .int .i64 0, .int .i64 0]
  have rd1 := hr.below hB
  have s2 := fun wx => sl_mid ad 26 cap 2 6 2 8 (by omega) (by omega) (by omega) (by omega) (by omega) wx
  have s8 := fun wx => sl_mid ad 26 cap 8 6 8 14 (by omega) (by omega) (by omega) (by omega) (by omega) wx
  have s14 := fun wx => sl_mid ad 26 cap 14 4 14 18 (by omega) (by omega) (by omega) (by omega) (by omega) wx
  have s18 := fun wx => sl_mid ad 26 cap 18 4 18 22 (by omega) (by omega) (by omega) (by omega) (by omega) wx
  have s22 := fun wx => sl_mid ad 26 cap 22 2 22 24 (by omega) (by omega) (by omega) (by omega) (by omega) wx
  have s24 := fun wx => sl_mid ad 26 cap 24 2 24 26 (by omega) (by omega) (by omega) (by omega) (by omega) wx
  have HR := Lib.hid hr
  have HR := Lib.hid hr
  clear hr
  go_enter Tryd.func10, Tryd.ntmps10
  go_upto_region 3 with fail
  rw [← hw1]
  obtain ⟨G, hG⟩ : ∃ G, G = w.heap.size := ⟨_, rfl⟩
  have HG := Lib.hid hG
  rw [← hG] at hk ⊢
  clear hw1 hG
  go_cut [4] (fun a wx => TagA w1 wx x0 x1 x2 x3 a)
  case first =>
    go_region_held3 (fun wx => wx.cell? ad = some (.int .u8 (x0 : Int)) ∧ wx.cell? ⟨ad.block, ad.off + 1, none⟩ = some (.int .u8 (x1 : Int))) (first | exact hT _ rd1.drew | exact hT _ (rd1.alloc _).drew) (first
      | (go_at_call 27; first
          | ((with_reducible refine (h2 _ _ (by first | exact rd1.drew | exact (rd1.alloc _).drew)).mono ?_); rintro e w' ⟨rfl, rfl⟩)
          | ((with_reducible refine (h8 _ _ (by first | exact rd1.drew | exact (rd1.alloc _).drew)).mono ?_); rintro e w' ⟨rfl, rfl⟩)
         dsimp only))
    all_goals
      (have hw0 := wrap_small x0 (by omega)
       have hw1 := wrap_small x1 (by omega)
       rw [hw0, hw1]
       clear h2 h8 h14 h18 h22 h24 s2 s8 s14 s18 s22 s24
       go_wp2_with fail
       go_meet
       exact ⟨rfl, rfl⟩)
  case rest =>
    obtain ⟨rfl, hwc⟩ := hcut
    have bc : Below w.heap.size w wc := by rw [hwc]; exact bel_drew (hB.alloc hB.size _)
    have kz : Blk wc G 25 [.int .i64 0, .int .i64 0, .int .u64 0, .int .u64 0, .int .i64 0, .int .i64 0, .int .i64 0, .int .i64 0] := by rw [hwc]; exact (hk.alloc _).drew
    have k2 : Blk wc w1.heap.size 25 [.int .i64 (x0 : Int), .int .i64 (x1 : Int), .int .u64 (x2 : Int), .int .u64 (x3 : Int), .int .i64 0, .int .i64 0, .int .i64 0, .int .i64 0] := by rw [hwc]; exact (Blk.new w1 _ _).drew
    obtain ⟨Q, hQ⟩ : ∃ Q, Q = w1.heap.size := ⟨_, rfl⟩
    rw [← hQ] at k2 ⊢
    have hne : G ≠ Q := by have := hk.lt; omega
    have hQw : w.heap.size ≤ Q := by have := hk.lt; have := HG.out; omega
    clear hwc hQ hk rd1 hB hT h2 h8 s2 s8
    generalize wc = w2 at *
    have rd2 : Rd w2 (some ad) (u8s l) := HR.out.below bc
    go_wp2_with fail
    with_reducible refine (h14 _ _ rd2).mono ?_
    rintro e w' ⟨rfl, rfl⟩
    have cc : w2.cell? ⟨Q, 4, none⟩ = some (.int .i64 0) := k2.cell 4
    have ff := k2.frozen 4
    have hw := wrap_small x4 (by omega)
    clear rd2 h14 s14
    go_upto_region 5 with fail
    obtain ⟨w3, hwv⟩ : ∃ x, x = w2.setCell ⟨Q, 4, none⟩ (.int .i64 (x4 : Int)) := ⟨_, rfl⟩
    rw [← hwv]
    replace k2 : Blk w3 Q 25 [.int .i64 (x0 : Int), .int .i64 (x1 : Int), .int .u64 (x2 : Int), .int .u64 (x3 : Int), .int .i64 (x4 : Int), .int .i64 0, .int .i64 0, .int .i64 0] := by rw [hwv]; exact k2.set_ 4 _
    replace kz := kz.far (p := ⟨Q, 4, none⟩) hne (.int .i64 (x4 : Int))
    replace bc := below_frm bc bc.size ((Frm.refl (fun q => q = Q) w2).setCell (p := ⟨Q, 4, none⟩) (fun _ => rfl) (.int .i64 (x4 : Int))) (fun q hq => by rw [hq]; exact hQw)
    rw [← hwv] at kz bc
    clear hwv cc ff hw
    have rd2 : Rd w3 (some ad) (u8s l) := HR.out.below bc
    go_wp2_with fail
    with_reducible refine (h18 _ _ rd2).mono ?_
    rintro e w' ⟨rfl, rfl⟩
    have cc : w3.cell? ⟨Q, 5, none⟩ = some (.int .i64 0) := k2.cell 5
    have ff := k2.frozen 5
    have hw := wrap_small x5 (by omega)
    clear rd2 h18 s18
    go_upto_region 6 with fail
    obtain ⟨w4, hwv⟩ : ∃ x, x = w3.setCell ⟨Q, 5, none⟩ (.int .i64 (x5 : Int)) := ⟨_, rfl⟩
    rw [← hwv]
    replace k2 : Blk w4 Q 25 [.int .i64 (x0 : Int), .int .i64 (x1 : Int), .int .u64 (x2 : Int), .int .u64 (x3 : Int), .int .i64 (x4 : Int), .int .i64 (x5 : Int), .int .i64 0, .int .i64 0] := by rw [hwv]; exact k2.set_ 5 _
    replace kz := kz.far (p := ⟨Q, 5, none⟩) hne (.int .i64 (x5 : Int))
    replace bc := below_frm bc bc.size ((Frm.refl (fun q => q = Q) w3).setCell (p := ⟨Q, 5, none⟩) (fun _ => rfl) (.int .i64 (x5 : Int))) (fun q hq => by rw [hq]; exact hQw)
    rw [← hwv] at kz bc
    clear hwv cc ff hw
    have rd2 : Rd w4 (some ad) (u8s l) := HR.out.below bc
    go_wp2_with fail
    with_reducible refine (h22 _ _ rd2).mono ?_
    rintro e w' ⟨rfl, rfl⟩
    have cc : w4.cell? ⟨Q, 6, none⟩ = some (.int .i64 0) := k2.cell 6
    have ff := k2.frozen 6
    have hw := wrap_small x6 (by omega)
    clear rd2 h22 s22
    go_upto_region 7 with fail
    obtain ⟨w5, hwv⟩ : ∃ x, x = w4.setCell ⟨Q, 6, none⟩ (.int .i64 (x6 : Int)) := ⟨_, rfl⟩
    rw [← hwv]
    replace k2 : Blk w5 Q 25 [.int .i64 (x0 : Int), .int .i64 (x1 : Int), .int .u64 (x2 : Int), .int .u64 (x3 : Int), .int .i64 (x4 : Int), .int .i64 (x5 : Int), .int .i64 (x6 : Int), .int .i64 0] := by rw [hwv]; exact k2.set_ 6 _
    replace kz := kz.far (p := ⟨Q, 6, none⟩) hne (.int .i64 (x6 : Int))
    replace bc := below_frm bc bc.size ((Frm.refl (fun q => q = Q) w4).setCell (p := ⟨Q, 6, none⟩) (fun _ => rfl) (.int .i64 (x6 : Int))) (fun q hq => by rw [hq]; exact hQw)
    rw [← hwv] at kz bc
    clear hwv cc ff hw
    have rd2 : Rd w5 (some ad) (u8s l) := HR.out.below bc
    go_wp2_with fail
    with_reducible refine (h24 _ _ rd2).mono ?_
    rintro e w' ⟨rfl, rfl⟩
    have cc : w5.cell? ⟨Q, 7, none⟩ = some (.int .i64 0) := k2.cell 7
    have ff := k2.frozen 7
    have hw := wrap_small x7 (by omega)
    clear rd2 h24 s24
    go_upto_region 8 with fail
    obtain ⟨w6, hwv⟩ : ∃ x, x = w5.setCell ⟨Q, 7, none⟩ (.int .i64 (x7 : Int)) := ⟨_, rfl⟩
    rw [← hwv]
    replace k2 : Blk w6 Q 25 [.int .i64 (x0 : Int), .int .i64 (x1 : Int), .int .u64 (x2 : Int), .int .u64 (x3 : Int), .int .i64 (x4 : Int), .int .i64 (x5 : Int), .int .i64 (x6 : Int), .int .i64 (x7 : Int)] := by rw [hwv]; exact k2.set_ 7 _
    replace kz := kz.far (p := ⟨Q, 7, none⟩) hne (.int .i64 (x7 : Int))
    replace bc := below_frm bc bc.size ((Frm.refl (fun q => q = Q) w5).setCell (p := ⟨Q, 7, none⟩) (fun _ => rfl) (.int .i64 (x7 : Int))) (fun q hq => by rw [hq]; exact hQw)
    rw [← hwv] at kz bc
    clear hwv cc ff hw
    have c0 : w6.cell? ⟨Q, 0, none⟩ = some (.int .i64 (x0 : Int)) := k2.cell 0
    have z0 := kz.cell 0
    have f0 := kz.frozen 0
    have c1 : w6.cell? ⟨Q, 1, none⟩ = some (.int .i64 (x1 : Int)) := k2.cell 1
    have z1 := kz.cell 1
    have f1 := kz.frozen 1
    have c2 : w6.cell? ⟨Q, 2, none⟩ = some (.int .u64 (x2 : Int)) := k2.cell 2
    have z2 := kz.cell 2
    have f2 := kz.frozen 2
    have c3 : w6.cell? ⟨Q, 3, none⟩ = some (.int .u64 (x3 : Int)) := k2.cell 3
    have z3 := kz.cell 3
    have f3 := kz.frozen 3
    have c4 : w6.cell? ⟨Q, 4, none⟩ = some (.int .i64 (x4 : Int)) := k2.cell 4
    have z4 := kz.cell 4
    have f4 := kz.frozen 4
    have c5 : w6.cell? ⟨Q, 5, none⟩ = some (.int .i64 (x5 : Int)) := k2.cell 5
    have z5 := kz.cell 5
    have f5 := kz.frozen 5
    have c6 : w6.cell? ⟨Q, 6, none⟩ = some (.int .i64 (x6 : Int)) := k2.cell 6
    have z6 := kz.cell 6
    have f6 := kz.frozen 6
    have c7 : w6.cell? ⟨Q, 7, none⟩ = some (.int .i64 (x7 : Int)) := k2.cell 7
    have z7 := kz.cell 7
    have f7 := kz.frozen 7
    obtain ⟨kf, bf⟩ := set8 (.int .i64 (x0 : Int)) (.int .i64 (x1 : Int)) (.int .u64 (x2 : Int)) (.int .u64 (x3 : Int)) (.int .i64 (x4 : Int)) (.int .i64 (x5 : Int)) (.int .i64 (x6 : Int)) (.int .i64 (x7 : Int)) kz bc (by have := HG.out; omega)
    go_wp2
    refine bodyPost_ret (results_ct' rfl _ _ G 25 #[.int .i64 (x0 : Int), .int .i64 (x1 : Int), .int .u64 (x2 : Int), .int .u64 (x3 : Int), .int .i64 (x4 : Int), .int .i64 (x5 : Int), .int .i64 (x6 : Int), .int .i64 (x7 : Int)] (0, 0) _ rfl kf Tryd.underlying25 rfl (by kernel_rfl)) rfl ?_
    exact ⟨rfl, bf⟩
end Go.Proofs.YtekbjcagjkcaiaaDoor
