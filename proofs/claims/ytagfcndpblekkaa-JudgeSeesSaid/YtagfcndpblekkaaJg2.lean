/- Walks: both judges' Wear. -/
import Derived.Test.YtagfcndpblekkaaJg1
import Derived.Test.YtagfcndpblekkaaJlh
namespace Go.Proofs.Ytagfcndpblekkaa
open Go.RowKit Go.Maps
set_option linter.unusedVariables false
set_option linter.unusedSimpArgs false
/-- How often each block was erased. -/
def wrL (Bn : Nat) (seen : List Cmd) : List Int := (List.range Bn).map fun b : Nat => ((wrR seen (b : Int) : Nat) : Int)
theorem wrL_len (Bn : Nat) (seen : List Cmd) : (wrL Bn seen).length = Bn := by simp [wrL]
theorem wrL_at (Bn : Nat) (seen : List Cmd) (k : Nat) (h : k < Bn) : (wrL Bn seen).getD k 0 = ((wrR seen (k : Int) : Nat) : Int) := by
  rw [List.getD_eq_getElem?_getD]; simp [wrL, h]
theorem wrL_of {Bn : Nat} {l : List Int} {seen : List Cmd} (hl : l.length = Bn) (h : ∀ b : Int, 0 ≤ b → b < (Bn : Int) → at0 l b = (wrR seen b : Nat)) : l = wrL Bn seen := by
  apply List.ext_getElem
  · rw [hl, wrL_len]
  · intro k h1 h2
    have := h (k : Int) (by omega) (by omega)
    unfold at0 at this
    rw [Int.toNat_natCast, List.getD_eq_getElem?_getD, List.getElem?_eq_getElem h1] at this
    simp only [Option.getD_some] at this
    rw [this]
    simp [wrL]
theorem wrL_skip (Bn : Nat) (l : List Cmd) (c : Cmd) (h : c.k ≠ 2) : wrL Bn (l ++ [c]) = wrL Bn l := by
  unfold wrL
  congr 1
  funext b
  rw [wrR_snoc, if_neg (fun q => h q.1)]
  rfl
theorem wrL_erase (Bn : Nat) (l : List Cmd) (c : Cmd) (kb : Nat) (h : c.k = 2) (hb : c.b = kb) (hk : kb < Bn) : wrL Bn (l ++ [c]) = (wrL Bn l).set kb (((wrR l (kb : Int) : Nat) : Int) + 1) := by
  apply List.ext_getElem
  · simp [wrL]
  · intro k h1 h2
    rw [List.getElem_set]
    simp only [wrL, List.getElem_map, List.getElem_range]
    rw [wrR_snoc]
    by_cases e : kb = k
    · subst e
      rw [if_pos rfl, if_pos ⟨h, hb⟩]
      rfl
    · rw [if_neg e, if_neg (fun q => e (by have := q.2; omega))]
      rfl
theorem one_iv (l : List Int) : ∀ u ∈ iv l, u.oneCell' = true := by
  intro u hu
  obtain ⟨b, _, rfl⟩ := List.mem_map.mp hu
  rfl
theorem infoI3 : (Try.prog.info? 3).map (fun i => (i.zero, i.size, i.bytes)) = some (some (.int .i64 0), 1, 8) := by kernel_rfl
def SeenB (Bn : Nat) (l : List Cmd) : Prop := ∀ k, k < l.length → 0 ≤ (l.getD k ⟨0, 0, 0, 0⟩).b ∧ (l.getD k ⟨0, 0, 0, 0⟩).b < (Bn : Int)
set_option maxRecDepth 100000 in
set_option maxHeartbeats 3200000 in
theorem Wear_any (a : JA) (Bn : Nat) (p s : Int) (m : List Bool) (clean : Bool) (seen : List Cmd) (n : Nat) (w : World) (h : JQ w a Bn p s m clean seen n) (hB : Bn ≤ 4096) (hB0 : 0 < Bn) :
    Calls Try.prog 14 #[.pointer (some ⟨a.q, 0, none⟩)] w fun e w' => ∃ g c sp, e = .returned (.slice (some ⟨g, 0, none⟩) Bn c) ∧ Owx w' 3 1 (.slice (some ⟨g, 0, none⟩) Bn c) Bn (iv (wrL Bn seen)) sp ∧ w.heap.size ≤ g ∧ Below w.heap.size w w' := by
  obtain ⟨J, hJ, hI⟩ := h
  have hlw : J.wr.length = Bn := by rw [hI.lw, Int.toNat_natCast]
  have hwl := wrL_of hlw hI.wr
  obtain ⟨c0, c1, c3, c4, c5, c6, c7⟩ := cellsJ hJ
  have hr : Rd w (some ⟨a.ww, 0, none⟩) (iv (wrL Bn seen)) := by rw [← hwl]; exact Rd.of_blk (sp := []) (by rw [List.append_nil]; exact hJ.wr)
  have hL := wrL_len Bn seen
  generalize wrL Bn seen = L at *
  have HL := Lib.hid hL
  clear hI hJ hlw hwl hL
  go_enter Try.func14, Try.ntmps14
  go_wp2_with (at_builtin; first
    | (refine wpList_appx _ rfl (.const (.slice none 0 0)) (.tmp 6) 38 rfl 3 _ 1 8 Try.underlying38 infoI3 rfl (by decide) (n := 0) (v := .slice none 0 0) (xs := []) (sp := []) rfl (.inl ⟨rfl, rfl, rfl, rfl⟩) (A := some ⟨a.ww, 0, none⟩) (m := Bn) (c := Bn) (news := iv L) rfl (by rw [iv_len, HL.out]; exact (Nat.mul_one _).symm) hr (one_iv L) (by unfold maxLen; omega) (by omega) ?_
       intro v1 w2 sp1 ho1 hy1
       obtain ⟨b2, f1⟩ := lay_frm0 (Below.refl _ w) hy1 (fun k hk => by cases hk)
       simp only [Nat.zero_add, List.nil_append] at ho1
       obtain ⟨g, cap, rfl, _⟩ := ho1.blk hB0
       have HO := Lib.hid ho1
       have HB2 := Lib.hid b2
       have HG := Lib.hid (f1 g rfl)
       clear ho1 hy1 b2 f1))
  go_ret
  exact ⟨g, cap, sp1, rfl, HO.out, HG.out, HB2.out⟩
set_option maxRecDepth 100000 in
set_option maxHeartbeats 3200000 in
theorem rWear_any (q : Nat) (b p s : Int) (A : Option Addr) (n ca : Nat) (clean : Bool) (v : Value) (seen : List Cmd) (w : World) (h : RJ w q b p s A n ca clean v seen) (hm2 : seen.length ≤ 4398046511104) (hnb : (n : Int) = b) (hsb : SeenB n seen) (hB : n ≤ 4096) :
    Calls Try.prog 15 #[.pointer (some ⟨q, 0, none⟩)] w fun e w' => ∃ g, e = .returned (.slice (some ⟨g, 0, none⟩) n n) ∧ Blk w' g 3 (iv (wrL n seen)) ∧ w.heap.size ≤ g ∧ Below w.heap.size w w' := by
  obtain ⟨V, cN, sp, rfl, hst, ho, hne, hok⟩ := h
  obtain ⟨V', cN', hv, _, hs⟩ := ho.rd
  obtain ⟨rfl, _, rfl⟩ := Value.slice.inj hv
  obtain ⟨c0, c1, c3, c4, c5⟩ := cellsR hst
  obtain ⟨w1, hw1⟩ : ∃ x, x = w.alloc (.cells (iv (List.replicate n 0)).toArray 3) := ⟨_, rfl⟩
  have hmk := mk_slice b n hnb.symm (by omega) w
  rw [← hw1] at hmk
  obtain ⟨g, hg⟩ : ∃ g, g = w.heap.size := ⟨_, rfl⟩
  rw [← hg] at hmk
  have b1 : Below w.heap.size w w1 := by rw [hw1]; exact (Below.refl _ w).alloc (Nat.le_refl _) _
  have kg : Blk w1 g 3 (iv (List.replicate n 0)) := by rw [hw1, hg]; exact Blk.new w _ _
  have hz : List.replicate n 0 = wrL n (seen.take 0) := by
    apply List.ext_getElem
    · simp [wrL]
    · intro k h1 h2
      simp [wrL, wrR]
  rw [hz] at kg
  have hgw : w.heap.size ≤ g := by omega
  obtain ⟨N, hN⟩ : ∃ N, N = seen.length := ⟨_, rfl⟩
  rw [← hN] at hst c5
  have hF : wrL n (seen.take N) = wrL n seen := by rw [hN, List.take_length]
  have hstep : ∀ k, k < N → seen.take (k + 1) = seen.take k ++ [seen.getD k ⟨0, 0, 0, 0⟩] := fun k hk => take_snoc seen k (by omega)
  have hle : ∀ k b, k ≤ N → wrR (seen.take k) b ≤ k := fun k b hk => by have := wrR_le (seen.take k) b; rw [List.length_take] at this; omega
  have hm3 : N ≤ 4398046511104 := by omega
  have HST := Lib.hid hst
  have HS := Lib.hid hs
  have HSB := Lib.hid hsb
  have HSTEP := Lib.hid hstep
  have HLE := Lib.hid hle
  have HN := Lib.hid hN
  have HF := Lib.hid hF
  have HGW := Lib.hid hgw
  clear hst hs hsb hstep hle hN hF ho hok hnb hz hgw hw1 hg hm2
  go_enter Try.func15, Try.ntmps15
  go_wp2
  clear c0 c1 c3 c4 c5 hmk
  go_loopw [4] (fun ii wr => ∃ k : Nat, k ≤ N ∧ ii = .int .i64 k ∧ Below w.heap.size w wr ∧ Blk wr g 3 (iv (wrL n (seen.take k)))) (fun ii _ => N - (intJ ii))
  case atStart => exact ⟨0, by omega, rfl, b1, kg⟩
  case round =>
    clear kg b1
    obtain ⟨k, hk, rfl, bb, kr⟩ := hrel
    obtain ⟨c0, c1, c3, c4, c5⟩ := cellsR (HST.out.frm (ex := fun _ => False) (Frm.of_below bb) id)
    by_cases hlt : k < N
    · have hlti : (k : Int) < (N : Int) := by omega
      obtain ⟨ad2, rfl, d0, d1, d2, d3⟩ := rd_cmd (HS.out.below bb) k (by have := HN.out; omega)
      have hrg := HSB.out k (by have := HN.out; omega)
      have hsn := HSTEP.out k hlt
      have hw0 := fun (hc : (seen.getD k ⟨0, 0, 0, 0⟩).k ≠ 2) => wrL_skip n (seen.take k) (seen.getD k ⟨0, 0, 0, 0⟩) hc
      have hw1 := fun (kb : Nat) (hc : (seen.getD k ⟨0, 0, 0, 0⟩).k = 2) h1 h2 => wrL_erase n (seen.take k) (seen.getD k ⟨0, 0, 0, 0⟩) kb hc h1 h2
      rw [← hsn] at hw0 hw1
      have hwle := fun b => HLE.out k b hk
      have hlk := wrL_len n (seen.take k)
      have hwa := fun kb (h : kb < n) => wrL_at n (seen.take k) kb h
      generalize seen.getD k ⟨0, 0, 0, 0⟩ = cc at *
      obtain ⟨L2, hL2⟩ : ∃ x, x = wrL n (seen.take (k + 1)) := ⟨_, rfl⟩
      rw [← hL2] at hw0 hw1
      have HL2 := Lib.hid hL2
      clear hL2
      generalize wrL n (seen.take k) = L1 at *
      obtain ⟨ck, cb, cp, cs⟩ := cc
      simp only at d0 d1 d2 d3 hrg hw0 hw1
      by_cases hk2 : ck = 2
      · subst hk2
        obtain ⟨kb, rfl⟩ : ∃ kb : Nat, cb = kb := ⟨cb.toNat, by omega⟩
        have hkn : kb < n := by omega
        have hki : (kb : Int) < (n : Int) := by omega
        have hl2 := hw1 kb rfl rfl hkn
        have hcw : wr.cell? ⟨g, kb, none⟩ = some (.int .i64 ((wrR (seen.take k) (kb : Int) : Nat) : Int)) := by rw [kr.cell, iv_at _ _ (by omega), hwa kb hkn]
        have hxle := hwle (kb : Int)
        generalize wrR (seen.take k) (kb : Int) = x at *
        have hfz := kr.frozen kb
        have k2 : Blk (wr.setCell ⟨g, kb, none⟩ (.int .i64 ((x : Int) + 1))) g 3 (iv L2) := by
          have h2 := kr.set_ kb (.int .i64 ((x : Int) + 1))
          rw [iv_set, ← hl2] at h2
          exact h2
        have bb2 : Below w.heap.size w (wr.setCell ⟨g, kb, none⟩ (.int .i64 ((x : Int) + 1))) := below_frm bb bb.size ((Frm.refl (fun j => j = g) wr).setCell (p := ⟨g, kb, none⟩) (fun _ => rfl) _) (fun j hj => by rw [hj]; exact HGW.out)
        have K2 := Lib.hid k2
        have BB2 := Lib.hid bb2
        clear hw0 hw1 hsn hwle hwa hlk hl2 k2 bb2 kr bb
        go_wp2
        refine ⟨⟨k + 1, by omega, by go_num, BB2.out, by rw [← HL2.out]; exact K2.out⟩, ?_⟩
        simp [intJ]
        omega
      · have hl2 := hw0 hk2
        have K2 := Lib.hid (show Blk wr g 3 (iv L2) by rw [hl2]; exact kr)
        have BB2 := Lib.hid bb
        clear hw0 hw1 hsn hwle hwa hlk hl2 kr bb
        go_wp2
        refine ⟨⟨k + 1, by omega, by go_num, BB2.out, by rw [← HL2.out]; exact K2.out⟩, ?_⟩
        simp [intJ]
        omega
    · obtain rfl : k = N := by omega
      rw [HF.out] at kr
      go_wp2
      go_ret
      exact ⟨g, rfl, kr, HGW.out, bb⟩
end Go.Proofs.Ytagfcndpblekkaa
