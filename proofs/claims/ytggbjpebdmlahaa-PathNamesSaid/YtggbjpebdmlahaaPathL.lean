/- Base32's words: or and and of small whole numbers; digits. Plain lemmas, no conditions. -/
import Derived.Test.YtggbjpebdmlahaaPathK
import Derived.Test.YtggbjpebdmlahaaHashA
namespace Go.Num
open Go Go.RowKit
theorem wrap_i64_small (n : Nat) (h : n < 9223372036854775808) : IntKind.i64.wrap (n : Int) = (n : Int) := by rw [wrap_i64]; omega
theorem ofInt_64 (a : Nat) (ha : a < 18446744073709551616) : (BitVec.ofInt 64 (a : Int)).toNat = a := by
  simp [BitVec.toNat_ofInt]; omega
theorem i64_or_nat (a b : Nat) (ha : a < 2 ^ 63) (hb : b < 2 ^ 63) : bits .or .i64 (a : Int) (b : Int) = ((a ||| b : Nat) : Int) := by
  have hx : a ||| b < 2 ^ 63 := Nat.or_lt_two_pow ha hb
  show IntKind.i64.wrap ((BitVec.ofInt 64 (a : Int) ||| BitVec.ofInt 64 (b : Int)).toNat : Int) = _
  rw [BitVec.toNat_or, ofInt_64 a (by omega), ofInt_64 b (by omega)]
  exact wrap_i64_small _ (by omega)
theorem i64_and_nat (a b : Nat) (ha : a < 2 ^ 63) (hb : b < 2 ^ 63) : bits .and .i64 (a : Int) (b : Int) = ((a &&& b : Nat) : Int) := by
  have hx : a &&& b < 2 ^ 63 := Nat.and_lt_two_pow _ hb
  show IntKind.i64.wrap ((BitVec.ofInt 64 (a : Int) &&& BitVec.ofInt 64 (b : Int)).toNat : Int) = _
  rw [BitVec.toNat_and, ofInt_64 a (by omega), ofInt_64 b (by omega)]
  exact wrap_i64_small _ (by omega)
theorem or_join (a c h : Nat) (ha : a < 2 ^ h) (hh : h ≤ 12) (hc : c < 256) : bits .or .i64 (a : Int) ((c * 2 ^ h : Nat) : Int) = ((a + c * 2 ^ h : Nat) : Int) := by
  have h1 : (2 : Nat) ^ h ≤ 2 ^ 12 := Nat.pow_le_pow_right (by decide) hh
  have h2 : c * 2 ^ h ≤ 255 * 2 ^ 12 := Nat.mul_le_mul (by omega) h1
  rw [i64_or_nat _ _ (by omega) (by omega)]
  congr 1
  rw [Nat.or_comm, ← Nat.shiftLeft_eq, ← Nat.shiftLeft_add_eq_or_of_lt ha, Nat.add_comm]
theorem and_31 (n : Nat) (h : n < 2 ^ 40) : bits .and .i64 (n : Int) 31 = ((n % 32 : Nat) : Int) := by
  have := i64_and_nat n 31 (by omega) (by omega)
  rw [show ((31 : Nat) : Int) = 31 from rfl] at this
  rw [this]; congr 1; exact Nat.and_two_pow_sub_one_eq_mod n 5
theorem leN_lt (f : Nat → Nat) (hf : ∀ j, f j < 256) : ∀ k, leN f k < 256 ^ k
  | 0 => by show 0 < 1; decide
  | k + 1 => by
    have ih := leN_lt f hf k
    have h1 : f k * 256 ^ k ≤ 255 * 256 ^ k := Nat.mul_le_mul_right _ (by have := hf k; omega)
    show leN f k + f k * 256 ^ k < 256 ^ (k + 1)
    rw [Nat.pow_succ]
    omega
theorem leN_part (f : Nat → Nat) (hf : ∀ j, f j < 256) (k t h : Nat) (e : 8 * k = 5 * t + h) : leN f k / 32 ^ t < 2 ^ h := by
  have h1 : 256 ^ k = 32 ^ t * 2 ^ h := by
    rw [show (256 : Nat) = 2 ^ 8 from rfl, show (32 : Nat) = 2 ^ 5 from rfl, ← Nat.pow_mul, ← Nat.pow_mul, ← Nat.pow_add, e]
  rw [Nat.div_lt_iff_lt_mul (Nat.pow_pos (by decide)), Nat.mul_comm, ← h1]
  exact leN_lt f hf k
/-- Letter j of bytes by 32 letters, the lowest first. -/
def b32 (f : Nat → Nat) (m j : Nat) : Nat := let32 (digN f m j)
theorem b32_lt (f : Nat → Nat) (m j : Nat) : b32 f m j < 256 := let32_lt _ (Nat.mod_lt _ (by decide))
/-- How many letters. -/
def len32 (m : Nat) : Nat := (8 * m + 4) / 5
end Go.Num
