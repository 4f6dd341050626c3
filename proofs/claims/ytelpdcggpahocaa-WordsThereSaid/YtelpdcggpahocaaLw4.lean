/- The law WordsThere: its walk. -/
import Derived.Test.YtelpdcggpahocaaLw2
namespace Go.Proofs.Ytelpdcggpahocaa
open Go.RowKit
set_option linter.unusedVariables false
set_option linter.unusedSimpArgs false
set_option maxHeartbeats 800000 in
theorem mod_any (v : Int) (n : Nat) (w : World) (hn : 0 < n) (hm : n ≤ 140737488355329) (h1 : -9223372036854775808 ≤ v) (h2 : v ≤ 9223372036854775807) :
    Calls Try.prog 33 #[.int .i64 v, .int .i64 (n : Int)] w fun e w' => e = .returned (.int .i64 (v % (n : Int))) ∧ w = w' := by
  have hb : v.tmod n < n ∧ -(n : Int) < v.tmod n := ⟨Int.tmod_lt_of_pos _ (by omega), by have := Int.lt_tmod_of_pos v (show (0 : Int) < n by omega); omega⟩
  have h0 : ¬ (n : Int) = 0 := by omega
  have hem := Int.emod_nonneg v h0
  have hlt := Int.emod_lt_of_pos v (show (0 : Int) < n by omega)
  have ht := Int.tmod_def v n
  have hdef := Int.emod_def v n
  by_cases hneg : v.tmod n < 0
  · have e : v % (n : Int) = v.tmod n + n := by
      rw [Int.tmod_eq_emod] at hneg ⊢
      split at hneg
      · omega
      · rename_i hc
        rw [if_neg hc]
        have : ((n : Int).natAbs : Int) = n := by omega
        omega
    have HE := Lib.hid e
    clear e ht hdef hem hlt
    go_enter Try.func33, Try.ntmps33
    go_wp2
    go_ret
    exact ⟨by rw [HE.out]; rfl, rfl⟩
  · have e : v % (n : Int) = v.tmod n := by
      rw [Int.tmod_eq_emod] at hneg ⊢
      split at hneg
      · rename_i hc; rw [if_pos hc]; omega
      · rename_i hc
        exfalso
        have : ((n : Int).natAbs : Int) = n := by omega
        omega
    have HE := Lib.hid e
    clear e ht hdef hem hlt
    go_enter Try.func33, Try.ntmps33
    go_wp2
    go_ret
    exact ⟨by rw [HE.out]; rfl, rfl⟩
set_option maxHeartbeats 800000 in
theorem marked_wide (A : Option Addr) (n cap : Nat) (l : List UInt8) (w : World) (hl : l.length = n) (hr : Rd w A (u8s l)) (hm : n ≤ 140737488355000) :
    Calls Try.prog 11 #[.slice A n cap] w fun e w' => ∃ g cp sp, e = .returned (.slice (some ⟨g, 0, none⟩) n cp) ∧ Blk w' g 5 (u8s (l ++ [161, 178, 195]) ++ sp) ∧ n + 3 ≤ cp ∧ w.heap.size ≤ g ∧ Below w.heap.size w w' := by
  have HL := Lib.hid hl
  clear hl
  have h0 : Own (w.alloc (.cells #[] 5)) 5 1 (.slice (some ⟨w.heap.size, 0, none⟩) 0 0) 0 [] [] := Own.new w 5 1 0 [] rfl (Nat.zero_le _)
  have hr1 : Rd (w.alloc (.cells #[] 5)) A (u8s l) := hr.below ((Below.refl _ _).alloc (Nat.le_refl _) _)
  go_enter Try.func11, Try.ntmps11
  go_wp2_with (at_builtin; refine wpList_app _ rfl (.tmp 4) (.tmp 5) 22 rfl 5 _ 1 1 Try.underlying22 info5 rfl (by decide) rfl h0 rfl ?_ hr1 (one_u8s l) ?_ ?_ ?_)
  · have := HL.out; simp [u8s]; omega
  · unfold maxLen; omega
  · omega
  · intro v1 w1 sp1 ho1 hy1
    have hf1 := hy1.frm
    have hat1 := hy1.at_
    clear hy1
    have hn1 : Rd (w1.alloc (.cells (u8s [161, 178, 195]).toArray 5)) (some ⟨w1.heap.size, 0, none⟩) (u8s [161, 178, 195]) := Rd.of_blk (sp := []) (by simpa using Blk.new w1 5 (u8s [161, 178, 195]))
    have ho1' := ho1.frm ((Frm.refl (fun _ => False) w1).alloc (.cells (u8s [161, 178, 195]).toArray 5)) (fun _ _ h => h)
    simp only [u8s, bv, List.map_cons, List.map_nil] at hn1 ho1'
    clear hr hr1 ho1 h0
    go_wp2_with (at_builtin; refine wpList_app _ rfl (.tmp 6) (.tmp 7) 22 rfl 5 _ 1 1 Try.underlying22 info5 rfl (by decide) rfl ho1' rfl ?_ hn1 (one_u8s [161, 178, 195]) ?_ ?_ ?_)
    · rfl
    · unfold maxLen; omega
    · omega
    · intro v2 w2 sp2 ho2 hy2
      have hf2 := hy2.frm
      have hat2 := hy2.at_
      clear hy2
      obtain ⟨g, cp, rfl, hb, hl2, hc2, hn2, hm2⟩ := ho2.blk (by omega)
      go_wp2
      go_ret
      have f1 := fresh_app (B := w.heap.size) (v := .slice (some ⟨w.heap.size, 0, none⟩) 0 0) (by simp) (by intro k hk; cases hk; exact Nat.le_refl _) hat1
      have f2 := fresh_app (B := w.heap.size) (by have := hf1.size; simp at this ⊢; omega) f1 hat2
      have b1 : Below w.heap.size w w1 := below_frm ((Below.refl _ w).alloc (Nat.le_refl _) (.cells #[] 5)) (by simp) hf1 (by intro k hk; cases hk; exact Nat.le_refl _)
      have b2 : Below w.heap.size w w2 := below_frm (b1.alloc b1.size _) (by have := b1.size; simp; omega) hf2 (fun k hk => f1 k hk)
      exact ⟨g, cp, sp2, rfl, by rw [u8s_append]; exact hb, hn2, f2 g rfl, b2⟩


def zs8 : List UInt8 := [0, 0, 0, 0, 0, 0, 0, 0]
theorem new_lay4 {wz w1 : World} {o : Obj} {v : Value} (hy : Lay (wz.alloc o) w1 (.slice (some ⟨wz.heap.size, 0, none⟩) 0 0) v) : Frm (fun _ => False) wz w1 :=
  ((Frm.refl (fun _ => False) wz).alloc o).trans2 hy.frm (fun q hq hlt => by cases hq; exact absurd hlt (Nat.lt_irrefl _))
theorem str_at4 {wx : World} {A : Option Addr} {c n : Nat} {l : List UInt8} (hl : l.length = n) (h : Rd wx A (u8s l)) : (convert 22 9 (.slice A n c)).run Try.prog wx = .ok (.string ⟨l.toArray⟩) wx :=
  rd_string 22 9 5 Try.underlying22 Try.underlying5 Try.underlying9 hl h
theorem putR_ok (l : List UInt8) (a m v : Nat) (h1 : 1 ≤ m) (h8 : m ≤ 8) (hv : v < 256 ^ m) (ha : a + m ≤ l.length) : putR l (a : Int) (m : Int) v = (putB l a m v, 0) := by
  unfold putR
  rw [if_neg (by rw [Int.toNat_natCast]; omega), if_neg (by omega), Int.toNat_natCast, Int.toNat_natCast]
theorem part_putB (l : List UInt8) (a m v : Nat) (ha : a + m ≤ l.length) : part (putB l a m v) a m = leb v m := by
  unfold part putB
  rw [List.append_assoc, List.drop_left' (by rw [List.length_take]; omega), List.take_left' (leb_len v m)]
theorem getR_ok (l : List UInt8) (a m v : Nat) (h1 : 1 ≤ m) (h8 : m ≤ 8) (hv : v < 256 ^ m) (ha : a + m ≤ l.length) : getR (putB l a m v) (a : Int) (m : Int) = (v, 0) := by
  unfold getR
  rw [putB_len _ _ _ _ ha, if_neg (by omega), if_neg (by omega), Int.toNat_natCast, Int.toNat_natCast, part_putB _ _ _ _ ha, le_leb _ _ hv]
theorem take_putB (l : List UInt8) (a m v : Nat) (ha : a + m ≤ l.length) : (putB l a m v).take a = l.take a := by
  unfold putB
  rw [List.append_assoc, List.take_left' (by rw [List.length_take]; omega)]
theorem drop_putB (l : List UInt8) (a m v : Nat) (ha : a + m ≤ l.length) : (putB l a m v).drop (a + m) = l.drop (a + m) := by
  unfold putB
  rw [List.drop_left' (by rw [List.length_append, List.length_take, leb_len]; omega)]
theorem Rd.drop4 {w : World} {g : Nat} {k : Nat} {l : List UInt8} (h : Rd w (some ⟨g, 0, none⟩) (u8s l)) : Rd w (some ⟨g, k, none⟩) (u8s (l.drop k)) := by
  intro hne
  refine ⟨_, rfl, fun j u hj => ?_⟩
  have h1 : (u8s l)[k + j]? = some u := by
    rw [← hj]; simp [u8s]
  obtain ⟨ad, e, hc⟩ := h.at_ h1
  cases e
  rw [Addr.add_lit] at hc ⊢
  simpa using hc
theorem Rd.take4 {w : World} {A : Option Addr} {k : Nat} {l : List UInt8} (h : Rd w A (u8s l)) : Rd w A (u8s (l.take k)) := by
  intro hne
  have hne' : u8s l ≠ [] := by
    intro e
    have : l = [] := by simpa [u8s] using e
    rw [this] at hne
    simp [u8s] at hne
  obtain ⟨ad, e, hc⟩ := h hne'
  refine ⟨ad, e, fun j u hj => hc j u ?_⟩
  simp only [u8s, List.getElem?_map, List.getElem?_take] at hj ⊢
  split at hj
  · exact hj
  · simp at hj
theorem size_u8s (w : World) : (sizeOf (Try.prog.elem 22)).run Try.prog w = .ok 1 w := by kernel_rfl
theorem slh4 (g n c a : Nat) (ha : a ≤ c) (w : World) : (Instr.slice 22 (.slice (some ⟨g, 0, none⟩) n c) none (some (.int .i64 (a : Int))) none).run Try.prog w = .ok (.slice (some ⟨g, 0, none⟩) a c) w := by
  rw [run_slice_h w _ _ _ _ Try.underlying22 .i64 (a : Int) (by omega) (by omega), size_u8s]
  simp [Result.andThen, sliced, Addr.add_lit]
theorem sll4 (g n c a : Nat) (x : Int) (hx : x = a) (ha : a ≤ n) (hc : a < c) (w : World) : (Instr.slice 22 (.slice (some ⟨g, 0, none⟩) n c) (some (.int .i64 x)) none none).run Try.prog w = .ok (.slice (some ⟨g, a, none⟩) (n - a) (c - a)) w := by
  subst hx
  rw [run_slice_l w _ _ _ _ Try.underlying22 .i64 (a : Int) (by omega) (by omega), size_u8s]
  have : ¬ c = a := by omega
  simp [Result.andThen, sliced, Addr.add_lit, this]
theorem put_ok4 (g n8 cp a k v : Nat) (l8 : List UInt8) (sp : List Value) (w : World) (hl : l8.length = n8) (hb : Blk w g 5 (u8s (l8 ++ [161, 178, 195]) ++ sp)) (hk : k ≤ 7) (ha : a + 8 ≤ n8) (hm : n8 ≤ 140737488355328) (hv : v < 256 ^ (1 + k)) (hv6 : v < 18446744073709551616) :
    Calls Try.prog 27 #[.slice (some ⟨g, 0, none⟩) n8 cp, .int .i64 (a : Int), .int .i64 (1 + (k : Int)), .int .u64 (v : Int)] w fun e w' => e = .returned (.int .i64 0) ∧ Frm (· = g) w w' ∧ Rd w' (some ⟨g, 0, none⟩) (u8s (putB l8 a (1 + k) v)) := by
  have h := put_any g 0 n8 cp l8 [] (u8s [161, 178, 195] ++ sp) (a : Int) (((1 + k : Nat)) : Int) v w hl rfl (by rw [List.nil_append, ← List.append_assoc, ← u8s_append]; exact hb) hm hv6 (by omega) (by omega)
  rw [putR_ok l8 a (1 + k) v (by omega) (by omega) hv (by omega)] at h
  rw [show ((1 + k : Nat) : Int) = 1 + (k : Int) from by omega] at h
  refine h.mono fun e w' h => ⟨h.1, h.2.2, ?_⟩
  have hb' := h.2.1
  rw [List.nil_append] at hb'
  exact Rd.of_blk hb'
theorem get_ok4 (A : Option Addr) (n8 cp a k v : Nat) (l8 : List UInt8) (w : World) (hl : l8.length = n8) (hr : Rd w A (u8s (putB l8 a (1 + k) v))) (hk : k ≤ 7) (ha : a + 8 ≤ n8) (hm : n8 ≤ 140737488355328) (hv : v < 256 ^ (1 + k)) :
    Calls Try.prog 16 #[.slice A n8 cp, .int .i64 (a : Int), .int .i64 (1 + (k : Int))] w fun e w' => e = .returned (.tuple #[.int .u64 (v : Int), .int .i64 0]) ∧ w = w' := by
  have h := get_any A n8 cp (a : Int) (((1 + k : Nat)) : Int) (putB l8 a (1 + k) v) w (by rw [putB_len _ _ _ _ (by omega)]; exact hl) hr hm (by omega) (by omega)
  rw [getR_ok l8 a (1 + k) v (by omega) (by omega) hv (by omega)] at h
  rw [show ((1 + k : Nat) : Int) = 1 + (k : Int) from by omega] at h
  exact h
theorem strh4 (l : List UInt8) (a : Nat) (ha : a ≤ l.length) (w : World) : (Instr.slice 9 (.string ⟨l.toArray⟩) none (some (.int .i64 (a : Int))) none).run Try.prog w = .ok (.string ⟨(l.take a).toArray⟩) w := by
  rw [run_slice_string_h w _ _ Try.underlying9 .i64 (a : Int) (by omega) (by show (a : Int) ≤ (ByteArray.size ⟨l.toArray⟩ : Nat); simp [ByteArray.size]; omega)]
  congr 2
  apply ByteArray.ext
  simp [ByteArray.data_extract]
theorem strl4 (l : List UInt8) (a : Nat) (x : Int) (hx : x = a) (ha : a ≤ l.length) (w : World) : (Instr.slice 9 (.string ⟨l.toArray⟩) (some (.int .i64 x)) none none).run Try.prog w = .ok (.string ⟨(l.drop a).toArray⟩) w := by
  subst hx
  rw [run_slice_string_l w _ _ Try.underlying9 .i64 (a : Int) (by omega) (by show (a : Int) ≤ (ByteArray.size ⟨l.toArray⟩ : Nat); simp [ByteArray.size]; omega)]
  congr 2
  apply ByteArray.ext
  simp [ByteArray.data_extract, ByteArray.size]
  rw [List.take_of_length_le (by simp)]
set_option maxRecDepth 100000 in
set_option maxHeartbeats 4000000 in
theorem there_walk (w : World) (A : Option Addr) (n c : Nat) (l : List UInt8) (hl : l.length = n) (hr : Rd w A (u8s l)) (hm : n ≤ 140737488351232) (at_ : Int) (ha1 : -9223372036854775808 ≤ at_) (ha2 : at_ ≤ 9223372036854775807)
    (size : Int) (hs1 : -9223372036854775808 ≤ size) (hs2 : size ≤ 9223372036854775807) (v : Nat) (hv : v < 18446744073709551616) :
    Calls Try.prog 9 #[.slice A n c, .int .i64 at_, .int .i64 size, .int .u64 (v : Int)] w fun e w' => e = .returned (.bool true) ∧ Below w.heap.size w w' := by
  have HL := Lib.hid hl
  have HV := Lib.hid hv
  clear hl hv
  obtain ⟨k, hk7, hk⟩ : ∃ k : Nat, k ≤ 7 ∧ size % 8 = (k : Int) := ⟨(size % 8).toNat, by omega, by omega⟩
  obtain ⟨a, han, ha⟩ : ∃ a : Nat, a ≤ n ∧ at_ % ((n + 1 : Nat) : Int) = (a : Int) := by
    have h1 := Int.emod_nonneg at_ (show ((n + 1 : Nat) : Int) ≠ 0 by omega)
    have h2 := Int.emod_lt_of_pos at_ (show (0 : Int) < ((n + 1 : Nat) : Int) by omega)
    exact ⟨(at_ % ((n + 1 : Nat) : Int)).toNat, by omega, by omega⟩
  have M1 : Calls Try.prog 33 #[.int .i64 size, .int .i64 8] w fun e w' => e = .returned (.int .i64 (k : Int)) ∧ w = w' := by
    have h := mod_any size 8 w (by decide) (by decide) hs1 hs2
    rw [show size % ((8 : Nat) : Int) = (k : Int) from hk] at h
    exact h
  have M2 : Calls Try.prog 33 #[.int .i64 at_, .int .i64 ((n : Int) + 1)] w fun e w' => e = .returned (.int .i64 (a : Int)) ∧ w = w' := by
    have h := mod_any at_ (n + 1) w (by omega) (by omega) ha1 ha2
    rw [ha] at h
    exact h
  clear hk ha
  have hra : Rd (w.alloc (.cells #[] 5)) A (u8s l) := hr.alloc _
  go_enter Try.func9, Try.ntmps9
  go_wp2_with (first | (go_at_call 33; (first | (with_reducible refine M1.mono ?_) | (with_reducible refine M2.mono ?_)); rintro e w' ⟨rfl, rfl⟩) | (at_builtin; refine wpList_app _ rfl (.tmp 22) (.tmp 23) 22 rfl 5 _ 1 1 Try.underlying22 info5 rfl (by decide) rfl (Own.new w 5 1 0 [] rfl (Nat.zero_le _)) rfl (by rw [u8s_length, HL.out]; exact (Nat.mul_one _).symm) hra (one_u8s l) (by unfold maxLen; omega) (by omega) ?_; intro v1 w1 sp1 ho1 hy1; simp only [Nat.zero_add, List.nil_append] at ho1) | (at_builtin; refine wpList_app _ rfl (.tmp 24) (.tmp 25) 22 rfl 5 _ 1 1 Try.underlying22 info5 rfl (by decide) rfl (ho1.alloc _) rfl rfl (rd_new w1 5 (u8s zs8)) (one_u8s zs8) (by unfold maxLen; omega) (by omega) ?_; intro v2 w2 sp2 ho2 hy2))
  have f1 := fresh_app (B := w.heap.size) (v := .slice (some ⟨w.heap.size, 0, none⟩) 0 0) (by simp) (by intro k hk; cases hk; exact Nat.le_refl _) hy1.at_
  have b1 : Below w.heap.size w w1 := below_frm (Below.refl _ w) (Nat.le_refl _) (new_lay4 hy1) (fun _ h => h.elim)
  have b2 : Below w.heap.size w w2 := below_frm (b1.alloc b1.size _) (by have := b1.size; simp; omega) hy2.frm (fun k hk => f1 k hk)
  clear hy1 hy2 ho1 f1 b1 hra M1 M2
  obtain ⟨A2, c2, l8, rfl, hr2, hl8⟩ : ∃ A2 c2, ∃ l8 : List UInt8, v2 = .slice A2 (n + 8) c2 ∧ Rd w2 A2 (u8s l8) ∧ l8.length = n + 8 := by
    obtain ⟨A2, c2, e, _, hr2⟩ := ho2.rd
    exact ⟨A2, c2, l ++ zs8, e, by rw [u8s_append]; exact hr2, by rw [List.length_append, HL.out]; rfl⟩
  have HL8 := Lib.hid hl8
  clear ho2 hl8
  have HK : (∃ vv pw : Nat, k < 7 ∧ vv < 256 ^ (1 + k) ∧ 0 < pw ∧ IntKind.u64.wrap (2 ^ (8 * (1 + k))) = (pw : Int) ∧ ((v : Int).tmod (pw : Int) = (vv : Int))) ∨ (7 ≤ k ∧ v < 256 ^ (1 + k)) := by
    rcases Nat.lt_or_ge k 7 with hk | hk
    · refine .inl ⟨v % 256 ^ (1 + k), 256 ^ (1 + k), hk, Nat.mod_lt _ (Nat.pow_pos (by decide)), Nat.pow_pos (by decide), ?_, ?_⟩
      · have h1 := pow256_le (1 + k) (by omega)
        rw [pow256] at h1
        have e2 : (2 : Int) ^ (8 * (1 + k)) = ((2 ^ (8 * (1 + k)) : Nat) : Int) := by simp
        rw [IntKind.wrap_u64, pow256, e2, Int.emod_eq_of_lt (Int.natCast_nonneg _) (by omega)]
      · rw [Int.tmod_eq_emod_of_nonneg (Int.natCast_nonneg _)]; rfl
    · refine .inr ⟨hk, ?_⟩
      have : 1 + k = 8 := by omega
      rw [this]
      exact HV.out
  rcases HK with ⟨vv, pw, hk, hvv, hpw, hps, hvm⟩ | ⟨hk, hvv⟩
  · go_wp2_with (first | (go_at_call 11; refine (marked_wide A2 (n + 8) c2 l8 _ HL8.out hr2 (by omega)).mono ?_; rintro e w3 ⟨g, cp, sp, rfl, hb3, hcp, hg, hbl3⟩; have hs3 : (convert 22 9 (.slice (some ⟨g, 0, none⟩) (n + 8) cp)).run Try.prog w3 = .ok (.string ⟨l8.toArray⟩) w3 := str_at4 HL8.out (Rd.of_blk (sp := u8s [161, 178, 195] ++ sp) (by rw [← List.append_assoc, ← u8s_append]; exact hb3))) | (go_at_call 27; refine (put_ok4 g (n + 8) cp a k vv l8 sp _ HL8.out hb3 hk7 (by omega) (by omega) hvv (by have := HV.out; first | exact this | (have := pow256_le (1 + k) (by omega); omega))).mono ?_; rintro e w4 ⟨rfl, hf4, hr4⟩) | (go_at_call 16; refine (get_ok4 _ (n + 8) cp a k vv l8 _ HL8.out hr4 hk7 (by omega) (by omega) hvv).mono ?_; rintro e w4' ⟨rfl, rfl⟩))
    have hfr : Rd w4 (some ⟨g, 0, none⟩) (u8s (l8.take a)) := by have h := hr4.take4 (k := a); rwa [take_putB _ _ _ _ (by rw [HL8.out]; omega)] at h
    have hlr : Rd w4 (some ⟨g, a + (1 + k), none⟩) (u8s (l8.drop (a + (1 + k)))) := by have h := hr4.drop4 (k := a + (1 + k)); rwa [drop_putB _ _ _ _ (by rw [HL8.out]; omega)] at h
    have hw : IntKind.i64.wrap ((a : Int) + (1 + (k : Int))) = (a : Int) + (1 + (k : Int)) := by rw [IntKind.wrap_i64]; omega
    have hq0 := slh4 g (n + 8) cp a (by omega)
    have hq5 := sll4 g (n + 8) cp (a + (1 + k)) ((a : Int) + (1 + (k : Int))) (by omega) (by omega) (by omega)
    have hq1 : (convert 22 9 (.slice (some ⟨g, 0, none⟩) a cp)).run Try.prog w4.drew = .ok (.string ⟨(l8.take a).toArray⟩) w4.drew := str_at4 (by rw [List.length_take, HL8.out]; omega) hfr
    have hq2 : (convert 22 9 (.slice (some ⟨g, a + (1 + k), none⟩) (n + 8 - (a + (1 + k))) (cp - (a + (1 + k))))).run Try.prog w4.drew = .ok (.string ⟨(l8.drop (a + (1 + k))).toArray⟩) w4.drew := str_at4 (by rw [List.length_drop, HL8.out]) hlr
    have hq3 := strh4 l8 a (by rw [HL8.out]; omega)
    have hq4 := strl4 l8 (a + (1 + k)) ((a : Int) + (1 + (k : Int))) (by omega) (by rw [HL8.out]; omega)
    have hbl : Below w.heap.size w w4 := below_frm (b2.trans (hbl3.mono b2.size)) (by have := b2.size; have := hbl3.size; omega) hf4 (fun k hk => by rw [hk]; have := b2.size; omega)
    clear hf4 hr4 hfr hlr hb3 hbl3 hr2
    refine wp_region_still_tail 37 (by kernel_rfl) (by kernel_rfl) ?_
    simp only [List.take_succ_cons, List.take_zero, List.drop_succ_cons, List.drop_zero]
    repeat still_step
    still_call (back_same (no_any _ _))
    repeat still_step
    still_call (back_same (no_any _ _))
    repeat still_step
    refine wpStill_nil ?_
    change wpList _ _ _ _ _ w4.drew
    go_wp2
    go_ret
    exact ⟨rfl, hbl.os, hbl.tape, hbl.output, hbl.size, hbl.block⟩
  · go_wp2_with (first | (go_at_call 11; refine (marked_wide A2 (n + 8) c2 l8 _ HL8.out hr2 (by omega)).mono ?_; rintro e w3 ⟨g, cp, sp, rfl, hb3, hcp, hg, hbl3⟩; have hs3 : (convert 22 9 (.slice (some ⟨g, 0, none⟩) (n + 8) cp)).run Try.prog w3 = .ok (.string ⟨l8.toArray⟩) w3 := str_at4 HL8.out (Rd.of_blk (sp := u8s [161, 178, 195] ++ sp) (by rw [← List.append_assoc, ← u8s_append]; exact hb3))) | (go_at_call 27; refine (put_ok4 g (n + 8) cp a k v l8 sp _ HL8.out hb3 hk7 (by omega) (by omega) hvv (by have := HV.out; first | exact this | (have := pow256_le (1 + k) (by omega); omega))).mono ?_; rintro e w4 ⟨rfl, hf4, hr4⟩) | (go_at_call 16; refine (get_ok4 _ (n + 8) cp a k v l8 _ HL8.out hr4 hk7 (by omega) (by omega) hvv).mono ?_; rintro e w4' ⟨rfl, rfl⟩))
    have hfr : Rd w4 (some ⟨g, 0, none⟩) (u8s (l8.take a)) := by have h := hr4.take4 (k := a); rwa [take_putB _ _ _ _ (by rw [HL8.out]; omega)] at h
    have hlr : Rd w4 (some ⟨g, a + (1 + k), none⟩) (u8s (l8.drop (a + (1 + k)))) := by have h := hr4.drop4 (k := a + (1 + k)); rwa [drop_putB _ _ _ _ (by rw [HL8.out]; omega)] at h
    have hw : IntKind.i64.wrap ((a : Int) + (1 + (k : Int))) = (a : Int) + (1 + (k : Int)) := by rw [IntKind.wrap_i64]; omega
    have hq0 := slh4 g (n + 8) cp a (by omega)
    have hq5 := sll4 g (n + 8) cp (a + (1 + k)) ((a : Int) + (1 + (k : Int))) (by omega) (by omega) (by omega)
    have hq1 : (convert 22 9 (.slice (some ⟨g, 0, none⟩) a cp)).run Try.prog w4.drew = .ok (.string ⟨(l8.take a).toArray⟩) w4.drew := str_at4 (by rw [List.length_take, HL8.out]; omega) hfr
    have hq2 : (convert 22 9 (.slice (some ⟨g, a + (1 + k), none⟩) (n + 8 - (a + (1 + k))) (cp - (a + (1 + k))))).run Try.prog w4.drew = .ok (.string ⟨(l8.drop (a + (1 + k))).toArray⟩) w4.drew := str_at4 (by rw [List.length_drop, HL8.out]) hlr
    have hq3 := strh4 l8 a (by rw [HL8.out]; omega)
    have hq4 := strl4 l8 (a + (1 + k)) ((a : Int) + (1 + (k : Int))) (by omega) (by rw [HL8.out]; omega)
    have hbl : Below w.heap.size w w4 := below_frm (b2.trans (hbl3.mono b2.size)) (by have := b2.size; have := hbl3.size; omega) hf4 (fun k hk => by rw [hk]; have := b2.size; omega)
    clear hf4 hr4 hfr hlr hb3 hbl3 hr2
    refine wp_region_still_tail 37 (by kernel_rfl) (by kernel_rfl) ?_
    simp only [List.take_succ_cons, List.take_zero, List.drop_succ_cons, List.drop_zero]
    repeat still_step
    still_call (back_same (no_any _ _))
    repeat still_step
    still_call (back_same (no_any _ _))
    repeat still_step
    refine wpStill_nil ?_
    change wpList _ _ _ _ _ w4.drew
    go_wp2
    go_ret
    exact ⟨rfl, hbl.os, hbl.tape, hbl.output, hbl.size, hbl.block⟩
end Go.Proofs.Ytelpdcggpahocaa
