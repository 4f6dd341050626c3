/- Walks of Hex and Unhex, the program's and the document's. -/
import Derived.Test.YtelpdcggpahocaaW5
import Derived.Test.YtelpdcggpahocaaDig
import Derived.Laws.MakeOwn
import Derived.Laws.Concat
import Derived.Laws.Strings
namespace Go.Proofs.Ytelpdcggpahocaa
open Go.RowKit
set_option linter.unusedVariables false
set_option linter.unusedSimpArgs false

section
variable {P : Program} (w : World)
/-- An append that has room: into the old row, whatever its bytes. -/
theorem run_app_in (t ty e : TypeId) (z : Value) (size bytes : Nat) (ht : P.underlying t = some (.slice e)) (hinfo : (P.info? e).map (fun i => (i.zero, i.size, i.bytes)) = some (some z, size, bytes))
    {g n cap : Nat} {xs sp : List Value} (hown : Own w e size (.slice (some ⟨g, 0, none⟩) n cap) n xs sp)
    (ad : Addr) (m c : Nat) {news : List Value} (hl : news.length = m * size) (hpos : 0 < news.length) (hr : Rd w (some ad) news) (h1 : ∀ u ∈ news, u.oneCell' = true) (hroom : n + m ≤ cap) :
    ∃ w' sp', (Builtin.append_ #[t, t] ty #[.slice (some ⟨g, 0, none⟩) n cap, .slice (some ad) m c]).run P w = .ok (.slice (some ⟨g, 0, none⟩) (n + m) cap) w' ∧ Own w' e size (.slice (some ⟨g, 0, none⟩) (n + m) cap) (n + m) (xs ++ news) sp' ∧ Frm (· = g) w w' := by
  obtain ⟨i, hi, hz, hsize, hby⟩ := info_parts hinfo
  have hcells : ∀ j u, news[j]? = some u → w.cell? (ad.add j) = some u := by
    intro j u hu
    obtain ⟨ad', h, hc⟩ := hr (by rintro rfl; simp at hu)
    cases h
    exact hc j u hu
  subst hsize
  rcases hown with ⟨h, _⟩ | ⟨g', cap', e', hb, hl2, hc2, hnc, hcm⟩
  · cases h
  · obtain ⟨e1, e2⟩ : g = g' ∧ cap = cap' := by simpa using e'
    subst e1 e2
    have hg : w.heap[g]? = some (.cells (xs ++ sp).toArray e (0, 0)) := hb
    have hcs : (xs ++ sp).toArray.size = cap * i.size := by simpa using hc2
    have hfit : n * i.size + news.length ≤ (xs ++ sp).toArray.size := by rw [hl, hcs, ← Nat.add_mul]; exact Nat.mul_le_mul_right _ hroom
    have hrun := run_append_room (P := P) w t ty e i ht hi g n cap (xs ++ sp).toArray hg ad m c news hl hcells h1 hroom hfit
    have hlen : (xs ++ news).length = (n + m) * i.size := by rw [List.length_append, hl2, hl, Nat.add_mul]
    refine ⟨_, sp.drop news.length, hrun, .inr ⟨g, cap, rfl, ?_, hlen, ?_, hroom, hcm⟩, ⟨rfl, rfl, rfl, by simp, fun k _ hk => setRow_other w g k _ (fun e => hk (by simp [e]))⟩⟩
    · unfold Blk
      rw [setRow_heap w g (xs ++ sp).toArray _ e _ hg]
      have e1 : List.take (n * i.size) (xs ++ sp) ++ news ++ List.drop (n * i.size + news.length) (xs ++ sp) = xs ++ news ++ sp.drop news.length := by
        rw [← hl2, List.take_left, ← List.drop_drop, List.drop_left]
      rw [show List.take (n * i.size) (xs ++ sp).toArray.toList ++ news ++ List.drop (n * i.size + news.length) (xs ++ sp).toArray.toList = _ from e1]
    · rw [hlen, List.length_drop]
      have h2 : (xs ++ sp).length = cap * i.size := by rw [List.length_append]; exact hc2
      have h3 : (n + m) * i.size ≤ cap * i.size := Nat.mul_le_mul_right _ hroom
      rw [List.length_append, hl2] at h2
      rw [Nat.add_mul] at h3 ⊢
      rw [hl]
      omega
theorem wpList_app_in {ops : Array Oper} {rest : List Oper} {o : Oper} {a : Act} {Q : Exit → Act → World → Prop} (hgd : o.guard = none) (s x : Operand) (t : TypeId)
    (ho : o.op = .call { callee := .builtin .append, args := #[s, x], argTypes := #[t, t] })
    (e : TypeId) (z : Value) (size bytes : Nat) (ht : P.underlying t = some (.slice e)) (hinfo : (P.info? e).map (fun i => (i.zero, i.size, i.bytes)) = some (some z, size, bytes))
    {g n cap : Nat} {xs sp : List Value} (hs : a.eval s = .slice (some ⟨g, 0, none⟩) n cap) (hown : Own w e size (.slice (some ⟨g, 0, none⟩) n cap) n xs sp)
    {ad : Addr} {m c : Nat} {news : List Value} (hx : a.eval x = .slice (some ad) m c) (hl : news.length = m * size) (hpos : 0 < news.length) (hr : Rd w (some ad) news) (h1 : ∀ u ∈ news, u.oneCell' = true) (hroom : n + m ≤ cap)
    (h : ∀ w' sp', Own w' e size (.slice (some ⟨g, 0, none⟩) (n + m) cap) (n + m) (xs ++ news) sp' → Frm (· = g) w w' → wpList P ops Q rest (a.put o.dst (.slice (some ⟨g, 0, none⟩) (n + m) cap)) w') :
    wpList P ops Q (o :: rest) a w := by
  refine wpList_plain hgd fun K hK => ?_
  obtain ⟨w', sp', hr', h2, h3⟩ := run_app_in (P := P) w t o.type e z size bytes ht hinfo hown ad m c hl hpos hr h1 hroom
  unfold Oper.wp execOp
  simp only [ho, resolve, invoke, builtin, Sem.run_bind, Sem.run_pure, Result.andThen_ok, List.map_toArray, List.map_cons, List.map_nil, hs, hx, hr']
  exact hK _ _ (h w' sp' h2 h3)
theorem step_app_in {ops : Array Oper} {o : Oper} {a : Act} {K : Act → World → Prop} {Q : Exit → Act → World → Prop} {E : Prop} (hgd : o.guard = none) (s x : Operand) (t : TypeId)
    (ho : o.op = .call { callee := .builtin .append, args := #[s, x], argTypes := #[t, t] })
    (e : TypeId) (z : Value) (size bytes : Nat) (ht : P.underlying t = some (.slice e)) (hinfo : (P.info? e).map (fun i => (i.zero, i.size, i.bytes)) = some (some z, size, bytes))
    {g n cap : Nat} {xs sp : List Value} (hs : a.eval s = .slice (some ⟨g, 0, none⟩) n cap) (hown : Own w e size (.slice (some ⟨g, 0, none⟩) n cap) n xs sp)
    {ad : Addr} {m c : Nat} {news : List Value} (hx : a.eval x = .slice (some ad) m c) (hl : news.length = m * size) (hpos : 0 < news.length) (hr : Rd w (some ad) news) (h1 : ∀ u ∈ news, u.oneCell' = true) (hroom : n + m ≤ cap)
    (h : ∀ w' sp', Own w' e size (.slice (some ⟨g, 0, none⟩) (n + m) cap) (n + m) (xs ++ news) sp' → Frm (· = g) w w' → K (a.put o.dst (.slice (some ⟨g, 0, none⟩) (n + m) cap)) w') :
    if Region.wanted o (yielded ops a.tmps) = true then Oper.wp P o a w K Q else E := by
  have hw : Region.wanted o (yielded ops a.tmps) = true := by simp [Region.wanted, hgd]
  rw [if_pos hw]
  obtain ⟨w', sp', hr', h2, h3⟩ := run_app_in (P := P) w t o.type e z size bytes ht hinfo hown ad m c hl hpos hr h1 hroom
  unfold Oper.wp execOp
  simp only [ho, resolve, invoke, builtin, Sem.run_bind, Sem.run_pure, Result.andThen_ok, List.map_toArray, List.map_cons, List.map_nil, hs, hx, hr']
  exact h w' sp' h2 h3
end

def digI (c : UInt8) : Int := if digN c < 16 then (digN c : Int) else -1
set_option maxHeartbeats 800000 in
theorem digit_any (c : UInt8) (w : World) : Calls Try.prog 38 #[.int .u8 (c.toNat : Int)] w fun e w' => e = .returned (.int .i64 (digI c)) ∧ w = w' := by
  have hc := c.toNat_lt
  by_cases h1 : 48 ≤ c.toNat ∧ c.toNat ≤ 57
  · have e : digI c = (c.toNat : Int) - 48 := by unfold digI digN; rw [if_pos h1, if_pos (by omega)]; omega
    rw [e]
    clear e
    obtain ⟨h1, h2⟩ := h1
    go_enter Try.func38, Try.ntmps38
    go_wp2
    go_ret
    exact ⟨rfl, rfl⟩
  · by_cases h2 : 97 ≤ c.toNat ∧ c.toNat ≤ 102
    · have e : digI c = (c.toNat : Int) - 97 + 10 := by unfold digI digN; rw [if_neg h1, if_pos h2, if_pos (by omega)]; omega
      rw [e]
      clear e
      have h3 : 48 ≤ c.toNat := by omega
      have h4 : ¬ c.toNat ≤ 57 := by omega
      obtain ⟨h2, h5⟩ := h2
      clear h1
      go_enter Try.func38, Try.ntmps38
      go_wp2
      go_ret
      exact ⟨rfl, rfl⟩
    · have e : digI c = -1 := by unfold digI digN; rw [if_neg h1, if_neg h2, if_neg (by omega)]
      rw [e]
      clear e
      by_cases h3 : 48 ≤ c.toNat
      · have h4 : ¬ c.toNat ≤ 57 := by omega
        by_cases h5 : 97 ≤ c.toNat
        · have h6 : ¬ c.toNat ≤ 102 := by omega
          clear h1 h2
          go_enter Try.func38, Try.ntmps38
          go_wp2
          go_ret
          exact ⟨rfl, rfl⟩
        · clear h1 h2
          go_enter Try.func38, Try.ntmps38
          go_wp2
          go_ret
          exact ⟨rfl, rfl⟩
      · have h5 : ¬ 97 ≤ c.toNat := by omega
        clear h1 h2
        go_enter Try.func38, Try.ntmps38
        go_wp2
        go_ret
        exact ⟨rfl, rfl⟩

theorem own_make (w : World) (c : Nat) (hc : c ≤ 281474976710656) : ∃ w1 sp, (Instr.makeSlice 22 (.int .i64 0) (.int .i64 (c : Int))).run Try.prog w = .ok (.slice (some ⟨w.heap.size, 0, none⟩) 0 c) w1 ∧
    Own w1 5 1 (.slice (some ⟨w.heap.size, 0, none⟩) 0 c) 0 [] sp ∧ Frm (fun _ => False) w w1 ∧ w.heap.size < w1.heap.size := by
  obtain ⟨i, hi, hz, hsize, hby⟩ := info_parts info5
  obtain ⟨w1, hrun, hrow, hgr⟩ := run_make_own (P := Try.prog) w 0 22 5 i _ 1 Try.underlying22 hi hz hsize .i64 .i64 c (by rw [hby]; omega) (by unfold maxLen; omega) (Nat.zero_le _)
  obtain ⟨sp, ho⟩ := Own.of_row hrow
  refine ⟨w1, sp, hrun, ho, (Frm.refl _ w).grown hgr (fun k hk => by cases hk), ?_⟩
  exact ho.lt _ rfl

theorem dig_fin : ∀ d : Fin 16, (⟨#[48, 49, 50, 51, 52, 53, 54, 55, 56, 57, 97, 98, 99, 100, 101, 102]⟩ : ByteArray)[d.val]'(by have := d.isLt; show d.val < 16; omega) = hexc d.val := by decide
theorem dig_at (i : Nat) (b : UInt8) (x : Int) (h : x.toNat < 16) (hb : b = hexc x.toNat) (h' : x.toNat < (⟨#[48, 49, 50, 51, 52, 53, 54, 55, 56, 57, 97, 98, 99, 100, 101, 102]⟩ : ByteArray).size) :
    (⟨#[48, 49, 50, 51, 52, 53, 54, 55, 56, 57, 97, 98, 99, 100, 101, 102]⟩ : ByteArray)[x.toNat]'h' = b := by
  rw [hb]; exact dig_fin ⟨x.toNat, h⟩
set_option maxHeartbeats 1600000 in
theorem hex_any (A : Option Addr) (n cap : Nat) (l : List UInt8) (w : World) (hl : l.length = n) (hr : Rd w A (u8s l)) (hm : n ≤ 140737488351232) :
    Calls Try.prog 23 #[.slice A n cap] w fun e w' => e = .returned (.string ⟨(hexR l).toArray⟩) ∧ Below w.heap.size w w' := by
  have HL := Lib.hid hl
  clear hl
  obtain ⟨w1, sp1, hmk, ho1, hf1, hlt1⟩ := own_make w (2 * n) (by omega)
  have hc2 : ((2 * n : Nat) : Int) = 2 * (n : Int) := by omega
  rw [hc2] at hmk
  obtain ⟨B, hB⟩ : ∃ B, B = w.heap.size := ⟨_, rfl⟩
  rw [← hB] at hmk ho1 hlt1
  have HB := Lib.hid hB
  clear hB
  have hb1 : Below B w w1 := by rw [HB.out]; exact hf1.below (Nat.le_refl _) (fun _ _ h => h)
  go_enter Try.func23, Try.ntmps23
  go_wp2
  go_loopw [3, 12] (fun v i wr => ∃ k : Nat, k ≤ n ∧ i = .int .i64 k ∧ v = .slice (some ⟨B, 0, none⟩) (2 * k) (2 * n) ∧ (∃ sp, Own wr 5 1 (.slice (some ⟨B, 0, none⟩) (2 * k) (2 * n)) (2 * k) (u8s (gen (hexB l) (2 * k))) sp) ∧ Below B w wr) (fun _ i _ => n - (intOf i).toNat)
  case atStart =>
    exact ⟨0, by omega, rfl, rfl, ⟨sp1, ho1⟩, hb1⟩
  case round =>
    obtain ⟨k, hk, rfl, rfl, ⟨sp, ho⟩, hbl⟩ := hrel
    by_cases hlt : k < n
    · have hlen := HL.out
      have hbW : Below w.heap.size w wr := by rw [← HB.out]; exact hbl
      obtain ⟨ad, e0, hc0⟩ := (hr.below hbW).at_ (k := k) (u8s_bt l k (by omega))
      obtain rfl := e0
      have hsz : B ≤ wr.heap.size := by rw [HB.out]; exact hbW.size
      have hbt := (bt l k).toNat_lt
      clear hlen hbW
      have hx0 : (0 : Int) ≤ ((bt l k).toNat : Int) / 16 := by omega
      have hx1 : ((bt l k).toNat : Int) / 16 < 16 := by omega
      have hx2 : (⟨#[48, 49, 50, 51, 52, 53, 54, 55, 56, 57, 97, 98, 99, 100, 101, 102]⟩ : ByteArray)[(((bt l k).toNat : Int) / 16).toNat]'(by show _ < 16; omega) = hexB l (2 * k) := dig_at 0 _ _ (by omega) (by rw [hexB_even]; congr 1) _
      have hx3 : Go.bits .and .u8 ((bt l k).toNat : Int) 15 = ((bt l k).toNat : Int) % 16 := by rw [show (15 : Int) = ((15 : Nat) : Int) from rfl, u8_and_nat _ _ (by omega) (by decide)]; rw [show (15 : Nat) = 2 ^ 4 - 1 from rfl, Nat.and_two_pow_sub_one_eq_mod]; omega
      have hx4 : (0 : Int) ≤ ((bt l k).toNat : Int) % 16 := by omega
      have hx5 : ((bt l k).toNat : Int) % 16 < 16 := by omega
      have hx6 : (⟨#[48, 49, 50, 51, 52, 53, 54, 55, 56, 57, 97, 98, 99, 100, 101, 102]⟩ : ByteArray)[(((bt l k).toNat : Int) % 16).toNat]'(by show _ < 16; omega) = hexB l (2 * k + 1) := dig_at 0 _ _ (by omega) (by rw [hexB_odd]; congr 1) _
      go_wp2
      go_region_law (refine step_app_in _ (by rfl) _ _ 22 (by rfl) 5 _ 1 1 Try.underlying22 info5 (by rfl) (ho.alloc _).drew (by rfl) (by rfl) (by simp [u8s]) (rd_new _ _ (u8s [hexB l (2 * k), hexB l (2 * k + 1)])).drew (one_u8s _) (by omega) ?_; intro w1 sp1 ho2 hy1)
      all_goals
        have b1 : Below B w w1 := below_frm ((hbl.alloc hsz _).drew) (by simp; omega) hy1 (fun q hq => by rw [hq]; exact Nat.le_refl _)
        clear ho hy1 hbl
        go_wp2
        go_roundw
        case rel => exact ⟨k + 1, by omega, by go_num, by rw [show 2 * (k + 1) = 2 * k + 2 from rfl], ⟨sp1, by rw [show 2 * (k + 1) = 2 * k + 1 + 1 from rfl, gen_succ, gen_succ, List.append_assoc, u8s_append]; exact ho2⟩, b1⟩
        case measure => simp [intOf]; omega
    · obtain rfl : k = n := by omega
      have hlen := HL.out
      have hcv : (convert 22 9 (.slice (some ⟨B, 0, none⟩) (2 * k) (2 * k))).run Try.prog wr = .ok (.string ⟨(hexR l).toArray⟩) wr := by
        obtain ⟨A', c', e', _, hr'⟩ := ho.rd
        obtain ⟨rfl, rfl⟩ : some (⟨B, 0, none⟩ : Addr) = A' ∧ 2 * k = c' := by simpa using e'
        have e2 : gen (hexB l) (2 * k) = hexR l := by unfold hexR; rw [hlen]
        rw [e2] at hr'
        exact rd_string 22 9 5 Try.underlying22 Try.underlying5 Try.underlying9 (by rw [hexR_len, hlen]) hr'
      clear hlen
      go_wp2
      go_ret
      exact ⟨rfl, by rw [← HB.out]; exact hbl⟩
theorem dig_cut : ∀ d : Fin 16, (⟨#[48, 49, 50, 51, 52, 53, 54, 55, 56, 57, 97, 98, 99, 100, 101, 102]⟩ : ByteArray).extract d.val (d.val + 1) = ⟨#[hexc d.val]⟩ := by decide +kernel
theorem cut_at (b : UInt8) (x : Int) (h0 : 0 ≤ x) (h : x < 16) (hb : b = hexc x.toNat) (w : World) :
    (Instr.slice 9 (.string ⟨#[48, 49, 50, 51, 52, 53, 54, 55, 56, 57, 97, 98, 99, 100, 101, 102]⟩) (some (.int .u8 x)) (some (.int .u8 (x + 1))) none).run Try.prog w = .ok (.string ⟨#[b]⟩) w := by
  have e := dig_cut ⟨x.toNat, by omega⟩
  rw [run_slice_string w 9 _ .u8 .u8 x (x + 1) Try.underlying9 h0 (by omega) (by show _ ≤ (16 : Int); omega), hb, ← e, show (x + 1).toNat = x.toNat + 1 from by omega]
theorem add_at (l m : List UInt8) (b : UInt8) (h : l ++ [b] = m) (hl : l.length ≤ 9223372036854775806) (w : World) :
    (Op.stringOp .add ⟨l.toArray⟩ ⟨#[b]⟩).run Try.prog w = .ok (.string ⟨m.toArray⟩) w := by
  have hs : (ByteArray.mk l.toArray).size = l.length := by show l.toArray.size = _; simp
  rw [run_string_add_sum w _ _ (by rw [hs]; show l.length + 1 ≤ _; omega), show (#[b] : Array UInt8) = [b].toArray from rfl, ByteArray.mk_append_mk, h]
set_option maxHeartbeats 1600000 in
theorem refhex_any (A : Option Addr) (n cap : Nat) (l : List UInt8) (w : World) (hl : l.length = n) (hr : Rd w A (u8s l)) (hm : n ≤ 140737488351232) :
    Calls Try.prog 24 #[.slice A n cap] w fun e w' => e = .returned (.string ⟨(hexR l).toArray⟩) ∧ Drn w w' := by
  have HL := Lib.hid hl
  clear hl
  go_enter Try.func24, Try.ntmps24
  go_wp2
  go_loopw [4, 5] (fun v i wr => ∃ k m : Nat, k ≤ n ∧ i = .int .i64 k ∧ v = .string ⟨(gen (hexB l) (2 * k)).toArray⟩ ∧ wr = w.drewN m) (fun _ i _ => n - (intOf i).toNat)
  case atStart => exact ⟨0, 0, by omega, rfl, rfl, rfl⟩
  case round =>
    obtain ⟨k, m, hk, rfl, rfl, rfl⟩ := hrel
    by_cases hlt : k < n
    · have hlen := HL.out
      obtain ⟨ad, e0, hc0⟩ := hr.at_ (k := k) (u8s_bt l k (by omega))
      obtain rfl := e0
      have hbt := (bt l k).toNat_lt
      clear hlen
      have hx0 : (0 : Int) ≤ ((bt l k).toNat : Int) / 16 := by omega
      have hx1 : ((bt l k).toNat : Int) / 16 < 16 := by omega
      have hx4 : (0 : Int) ≤ ((bt l k).toNat : Int) % 16 := by omega
      have hx5 : ((bt l k).toNat : Int) % 16 < 16 := by omega
      have hw1 : IntKind.u8.wrap (((bt l k).toNat : Int) / 16) = ((bt l k).toNat : Int) / 16 := by rw [IntKind.wrap_u8']; omega
      have hw2 : IntKind.u8.wrap (((bt l k).toNat : Int) / 16 + 1) = ((bt l k).toNat : Int) / 16 + 1 := by rw [IntKind.wrap_u8']; omega
      have hw3 : IntKind.u8.wrap (((bt l k).toNat : Int) % 16) = ((bt l k).toNat : Int) % 16 := by rw [IntKind.wrap_u8']; omega
      have hw4 : IntKind.u8.wrap (((bt l k).toNat : Int) % 16 + 1) = ((bt l k).toNat : Int) % 16 + 1 := by rw [IntKind.wrap_u8']; omega
      have hs1 := cut_at (hexB l (2 * k)) _ hx0 hx1 (by rw [hexB_even]; congr 1)
      have hs2 := cut_at (hexB l (2 * k + 1)) _ hx4 hx5 (by rw [hexB_odd]; congr 1)
      have ha1 := add_at (gen (hexB l) (2 * k)) (gen (hexB l) (2 * k + 1)) (hexB l (2 * k)) (gen_succ _ _).symm (by rw [gen_len]; omega)
      have ha2 := add_at (gen (hexB l) (2 * k + 1)) (gen (hexB l) (2 * (k + 1))) (hexB l (2 * k + 1)) (gen_succ _ _).symm (by rw [gen_len]; omega)
      go_wp2
      go_quiet (fail)
      go_wp2
      go_roundw
      case rel => exact ⟨k + 1, _, by omega, by go_num, rfl, rfl⟩
      case measure => simp [intOf]; omega
    · obtain rfl : k = n := by omega
      have hlen := HL.out
      have e2 : gen (hexB l) (2 * k) = hexR l := by unfold hexR; rw [hlen]
      rw [e2]
      clear hlen e2
      go_wp2
      go_ret
      exact ⟨rfl, _, rfl⟩
end Go.Proofs.Ytelpdcggpahocaa
