/- Plain words on the check sum: bit by bit and four bits at a time are the same; it is linear. No program, no memory. -/
import Derived.Test.YtelpdcggpahocaaDoorSpec
namespace Go.Proofs.YtelpdcggpahocaaDoor
set_option linter.unusedSimpArgs false
set_option linter.unusedVariables false

def P32 : Nat := 3988292384
theorem P32_lt : P32 < 4294967296 := by decide
/-- One step of the register, by one bit. -/
def b1 (x : Nat) : Nat := if x % 2 = 1 then x / 2 ^^^ P32 else x / 2
theorem b1_odd {x : Nat} (h : x % 2 = 1) : b1 x = x / 2 ^^^ P32 := if_pos h
theorem b1_even {x : Nat} (h : x % 2 = 0) : b1 x = x / 2 := if_neg (by omega)
theorem xor_lt {a b : Nat} (ha : a < 4294967296) (hb : b < 4294967296) : a ^^^ b < 4294967296 := Nat.xor_lt_two_pow (n := 32) ha hb
theorem b1_lt {x : Nat} (h : x < 4294967296) : b1 x < 4294967296 := by
  unfold b1
  split
  · exact xor_lt (by omega) P32_lt
  · omega
theorem b1_xor (x y : Nat) : b1 (x ^^^ y) = b1 x ^^^ b1 y := by
  have hd := Nat.xor_div_two (a := x) (b := y)
  have hm := Nat.xor_mod_two_eq_one (a := x) (b := y)
  rcases Nat.mod_two_eq_zero_or_one x with hx | hx <;> rcases Nat.mod_two_eq_zero_or_one y with hy | hy
  · rw [b1_even hx, b1_even hy, b1_even (by rcases Nat.mod_two_eq_zero_or_one (x ^^^ y) with h | h; exact h; exact absurd h (by rw [hm, hx, hy]; simp)), hd]
  · rw [b1_even hx, b1_odd hy, b1_odd (hm.mpr (by rw [hx, hy]; simp)), hd, Nat.xor_assoc]
  · rw [b1_odd hx, b1_even hy, b1_odd (hm.mpr (by rw [hx, hy]; simp)), hd, Nat.xor_assoc, Nat.xor_assoc, Nat.xor_comm P32]
  · rw [b1_odd hx, b1_odd hy, b1_even (by rcases Nat.mod_two_eq_zero_or_one (x ^^^ y) with h | h; exact h; exact absurd h (by rw [hm, hx, hy]; simp)), hd]
    rw [Nat.xor_assoc, ← Nat.xor_assoc P32, Nat.xor_comm P32, Nat.xor_assoc (y / 2), Nat.xor_self, Nat.xor_zero]
/-- k steps. -/
def bk : Nat → Nat → Nat
  | 0, x => x
  | k + 1, x => b1 (bk k x)
theorem bk_lt {x : Nat} (h : x < 4294967296) : ∀ k, bk k x < 4294967296
  | 0 => h
  | k + 1 => b1_lt (bk_lt h k)
theorem bk_xor (x y : Nat) : ∀ k, bk k (x ^^^ y) = bk k x ^^^ bk k y
  | 0 => rfl
  | k + 1 => by simp only [bk, bk_xor x y k, b1_xor]
theorem bk_add (x : Nat) (j : Nat) : ∀ k, bk (j + k) x = bk k (bk j x)
  | 0 => rfl
  | k + 1 => by show b1 (bk (j + k) x) = b1 (bk k (bk j x)); rw [bk_add x j k]
theorem b1_two (y : Nat) : b1 (2 * y) = y := by rw [b1_even (by omega)]; omega
theorem bk_up (y : Nat) : bk 4 (16 * y) = y := by
  show b1 (b1 (b1 (b1 (16 * y)))) = y
  rw [show 16 * y = 2 * (8 * y) from by omega, b1_two, show 8 * y = 2 * (4 * y) from by omega, b1_two, show 4 * y = 2 * (2 * y) from by omega, b1_two, b1_two]
/-- The table. -/
def foursL : List Nat := [0, 498536548, 997073096, 651767980, 1994146192, 1802195444, 1303535960, 1342533948, 3988292384, 4027552580, 3604390888, 3412177804, 2607071920, 2262029012, 2685067896, 3183342108]
def four (i : Nat) : Nat := foursL.getD i 0
theorem four_tab : ∀ i : Fin 16, bk 4 i.val = four i.val := by decide +kernel
theorem four_lt (i : Nat) : four i < 4294967296 := by
  rcases Nat.lt_or_ge i 16 with h | h
  · exact (show ∀ i : Fin 16, four i.val < 4294967296 by decide +kernel) ⟨i, h⟩
  · have : four i = 0 := by simp [four, foursL, List.getD, h]
    omega
/-- Four steps at once. -/
theorem four_step (x : Nat) : bk 4 x = x / 16 ^^^ four (x % 16) := by
  have e : 16 * (x / 16) ^^^ x % 16 = x := by
    have h := Nat.two_pow_add_eq_or_of_lt (i := 4) (b := x % 16) (by omega) (x / 16)
    have h2 : 16 * (x / 16) ||| x % 16 = 16 * (x / 16) ^^^ x % 16 := by
      apply Nat.eq_of_testBit_eq
      intro i
      rw [Nat.testBit_or, Nat.testBit_xor]
      rcases Nat.lt_or_ge i 4 with hi | hi
      · have : (16 * (x / 16)).testBit i = false := by
          rw [show 16 * (x / 16) = 2 ^ 4 * (x / 16) from rfl, Nat.testBit_two_pow_mul]
          simp; omega
        rw [this]; simp
      · have : (x % 16).testBit i = false := Nat.testBit_lt_two_pow (Nat.lt_of_lt_of_le (Nat.mod_lt _ (by decide)) (Nat.pow_le_pow_right (n := 2) (by decide) hi))
        rw [this]; simp
    rw [← h2, show 16 * (x / 16) = 2 ^ 4 * (x / 16) from rfl, ← h]
    omega
  have h := bk_xor (16 * (x / 16)) (x % 16) 4
  rw [e, bk_up] at h
  rw [h, four_tab ⟨x % 16, Nat.mod_lt _ (by decide)⟩]
/-- The register behind the first k bytes, from r. -/
def reg (r : Nat) (l : List UInt8) : Nat → Nat
  | 0 => r
  | k + 1 => bk 8 (reg r l k ^^^ (bt l k).toNat)
theorem reg_lt {r : Nat} (hr : r < 4294967296) (l : List UInt8) : ∀ k, reg r l k < 4294967296
  | 0 => hr
  | k + 1 => bk_lt (xor_lt (reg_lt hr l k) (by have := (bt l k).toNat_lt; omega)) 8
/-- What Sum answers. -/
def crcN (l : List UInt8) : Nat := reg 4294967295 l l.length ^^^ 4294967295
theorem crcN_lt (l : List UInt8) : crcN l < 4294967296 := xor_lt (reg_lt (by decide) l _) (by decide)
theorem not_xor {x : Nat} (h : x < 4294967296) : x ^^^ 4294967295 = 4294967295 - x := by
  apply Nat.eq_of_testBit_eq
  intro i
  have h1 := Nat.testBit_two_pow_sub_succ (x := x) (n := 32) h i
  rw [show 2 ^ 32 - (x + 1) = 4294967295 - x from by omega] at h1
  rw [h1, Nat.testBit_xor, show (4294967295 : Nat) = 2 ^ 32 - 1 from rfl, Nat.testBit_two_pow_sub_one]
  by_cases hi : i < 32
  · simp [hi]
  · have : x.testBit i = false := Nat.testBit_lt_two_pow (Nat.lt_of_lt_of_le h (Nat.pow_le_pow_right (n := 2) (by decide) (Nat.le_of_not_lt hi)))
    simp [hi, this]
theorem xor4 (a b c d : Nat) : (a ^^^ b) ^^^ (c ^^^ d) = (a ^^^ c) ^^^ (b ^^^ d) := by
  rw [Nat.xor_assoc, Nat.xor_assoc, ← Nat.xor_assoc b, Nat.xor_comm b c, Nat.xor_assoc c]
theorem reg_xor (r s : Nat) (l m : List UInt8) (d : List UInt8) (k : Nat) (h : ∀ i, i < k → bt d i = bt l i ^^^ bt m i) : reg (r ^^^ s) d k = reg r l k ^^^ reg s m k := by
  induction k with
  | zero => rfl
  | succ k ih =>
    simp only [reg]
    rw [ih (fun i hi => h i (by omega)), h k (by omega), UInt8.toNat_xor, xor4, bk_xor]
theorem reg_same (r : Nat) (l m : List UInt8) (k : Nat) (h : ∀ i, i < k → bt l i = bt m i) : reg r l k = reg r m k := by
  induction k with
  | zero => rfl
  | succ k ih => simp only [reg]; rw [ih (fun i hi => h i (by omega)), h k (by omega)]
/-- The sum of the exclusive or of three texts. -/
theorem crc_three (a b c d : List UInt8) (n : Nat) (ha : a.length = n) (hb : b.length = n) (hc : c.length = n) (hd : d.length = n) (h : ∀ i, i < n → bt d i = bt a i ^^^ bt b i ^^^ bt c i) :
    crcN d = crcN a ^^^ crcN b ^^^ crcN c := by
  unfold crcN
  rw [ha, hb, hc, hd]
  have h1 := reg_xor 4294967295 4294967295 a b (gen (fun i => bt a i ^^^ bt b i) n) n (fun i hi => bt_gen _ _ _ hi)
  have h2 := reg_xor 0 4294967295 (gen (fun i => bt a i ^^^ bt b i) n) c d n (fun i hi => by rw [h i hi, bt_gen _ _ _ hi])
  rw [Nat.xor_self] at h1
  rw [Nat.zero_xor, h1] at h2
  rw [h2]
  generalize reg 4294967295 a n = x
  generalize reg 4294967295 b n = y
  generalize reg 4294967295 c n = z
  rw [xor4 x _ y _, Nat.xor_self, Nat.xor_zero, Nat.xor_assoc (x ^^^ y)]
theorem crc_known : crcN [49, 50, 51, 52, 53, 54, 55, 56, 57] = 3421780262 := by decide +kernel
theorem crc_nil : crcN [] = 0 := by decide +kernel
end Go.Proofs.YtelpdcggpahocaaDoor
