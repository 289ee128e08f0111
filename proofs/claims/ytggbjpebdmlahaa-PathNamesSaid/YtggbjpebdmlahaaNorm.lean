/- What field.Norm computes, in numbers: plain lemmas, no conditions. -/
import Derived.Test.YtggbjpebdmlahaaNum
import Derived.Laws.BitsAllLaws
namespace Go.Num
open Go Go.RowKit
/-- The prime. -/
def p : Nat := 57896044618658097711785492504343953926634992332820282019728792003956564819949
/-- The field's operations, behind names. -/
def fnorm (a : Nat) : Nat := a % p
def fadd (a b : Nat) : Nat := (a + b) % p
def fsub (a b : Nat) : Nat := (a + (p - b % p)) % p
def fmul (a b : Nat) : Nat := a * b % p
def top (a : Nat) : Nat := a / 57896044618658097711785492504343953926634992332820282019728792003956564819968
def low (a : Nat) : Nat := a % 57896044618658097711785492504343953926634992332820282019728792003956564819968
def folded (a : Nat) : Nat := low a + top a * 19
theorem W4 : W ^ 4 = 115792089237316195423570985008687907853269984665640564039457584007913129639936 := by decide +kernel
theorem W3 : W ^ 3 = 6277101735386680763835789423207666416102355444464034512896 := by decide +kernel
theorem top_le {a : Nat} (h : a < W ^ 4) : top a ≤ 1 := by rw [W4] at h; unfold top; omega
theorem low_lt (a : Nat) : low a < 57896044618658097711785492504343953926634992332820282019728792003956564819968 := by unfold low; omega
theorem top_eq {a : Nat} (h : a < W ^ 4) : wd a 3 / 9223372036854775808 = top a := by
  rw [W4] at h; unfold wd top; rw [W3, show W = 18446744073709551616 from rfl]; omega
theorem low3 (a : Nat) : wd (low a) 3 = wd a 3 % 9223372036854775808 := by
  unfold wd low; rw [W3, show W = 18446744073709551616 from rfl]; omega
theorem low0 (a : Nat) : wd (low a) 0 = wd a 0 := by
  unfold wd low; rw [show W = 18446744073709551616 from rfl]; omega
theorem low1 (a : Nat) : wd (low a) 1 = wd a 1 := by
  unfold wd low; rw [show W = 18446744073709551616 from rfl]; omega
theorem low2 (a : Nat) : wd (low a) 2 = wd a 2 := by
  unfold wd low; rw [show W ^ 2 = 340282366920938463463374607431768211456 from by decide, show W = 18446744073709551616 from rfl]; omega
theorem and63 (x : Nat) (h : x < 18446744073709551616) : bits .and .u64 (x : Int) 9223372036854775807 = ((x % 9223372036854775808 : Nat) : Int) := by
  have := u64_and_nat x 9223372036854775807 h (by decide)
  rw [show ((9223372036854775807 : Nat) : Int) = 9223372036854775807 from rfl] at this
  rw [this]; congr 1; exact Nat.and_two_pow_sub_one_eq_mod x 63
theorem and_low (a : Nat) : bits .and .u64 (wd a 3 : Int) 9223372036854775807 = (wd (low a) 3 : Int) := by
  rw [low3]; exact and63 _ (wd_lt a 3)
theorem top_int {a : Nat} (h : a < W ^ 4) : (wd a 3 : Int) / 9223372036854775808 = (top a : Int) := by
  rw [← top_eq h]; rfl
theorem top_wrap {a : Nat} (h : a < W ^ 4) : IntKind.u64.wrap ((top a : Int) * 19) = ((top a * 19 : Nat) : Int) := by
  have := top_le h
  rw [IntWalk.u64_in _ (by omega)]; rfl
theorem num_low (a : Nat) : num (low a) = .agg #[.int .u64 (wd a 0), .int .u64 (wd a 1), .int .u64 (wd a 2), .int .u64 (wd (low a) 3)] :=
  num_of (low0 a) (low1 a) (low2 a) rfl
theorem folded_mod {a : Nat} (h : a < W ^ 4) : (low a + top a * 19) % W ^ 4 = folded a := by
  have h1 := top_le h; have h2 := low_lt a
  rw [W4]; unfold folded; omega
theorem folded_lt {a : Nat} (h : a < W ^ 4) : folded a < 2 * p := by
  have h1 := top_le h; have h2 := low_lt a
  unfold folded p; omega
theorem folded_p {a : Nat} : folded a % p = a % p := by
  have e : a = low a + top a * 57896044618658097711785492504343953926634992332820282019728792003956564819968 := by unfold low top; omega
  unfold folded
  generalize low a = l at *; generalize top a = t at *
  subst e
  unfold p; omega
theorem num_mod (n : Nat) : num (n % W ^ 4) = num n := by
  have h : ∀ j, j < 4 → wd (n % W ^ 4) j = wd n j := fun j hj => by
    unfold wd
    rw [show (4 : Nat) = j + (4 - j) by omega, Nat.pow_add, Nat.mod_mul_right_div_self, Nat.mod_mod_of_dvd]
    exact Nat.dvd_trans (by rw [Nat.pow_one]; exact Nat.dvd_refl _) (Nat.pow_dvd_pow W (show 1 ≤ 4 - j by omega))
  exact num_of (h 0 (by decide)) (h 1 (by decide)) (h 2 (by decide)) (h 3 (by decide))
theorem bor4 {a b : Nat} (ha : a < W ^ 4) (hb : b < W ^ 4) : decide (0 < bor a b 4) = decide (a < b) := by
  unfold bor; rw [Nat.mod_eq_of_lt ha, Nat.mod_eq_of_lt hb]; split <;> simp_all
theorem sub256_ge {a b : Nat} (ha : a < W ^ 4) (hb : b ≤ a) : sub256 a b = a - b := by
  unfold sub256
  rw [W4] at *
  omega
theorem p_lt : p < W ^ 4 := by rw [W4]; decide
theorem twop_lt : 2 * p < W ^ 4 := by rw [W4]; decide
theorem p_pos : 0 < p := by decide
theorem fnorm_lt (a : Nat) : fnorm a < p := Nat.mod_lt _ p_pos
theorem fadd_lt (a b : Nat) : fadd a b < p := Nat.mod_lt _ p_pos
theorem fsub_lt (a b : Nat) : fsub a b < p := Nat.mod_lt _ p_pos
theorem fmul_lt (a b : Nat) : fmul a b < p := Nat.mod_lt _ p_pos
theorem lt_W {n : Nat} (h : n < p) : n < W ^ 4 := Nat.lt_trans h p_lt
/-- The last step of Norm. -/
theorem norm_lt {f : Nat} (h : f < p) : f % p = f := Nat.mod_eq_of_lt h
theorem norm_ge {f : Nat} (h : p ≤ f) (h2 : f < 2 * p) : f % p = f - p := by unfold p at *; omega

/-! ### A product of two words, by halves -/
theorem and32 (x : Nat) (h : x < 18446744073709551616) : bits .and .u64 (x : Int) 4294967295 = ((x % 4294967296 : Nat) : Int) := by
  have := u64_and_nat x 4294967295 h (by decide)
  rw [show ((4294967295 : Nat) : Int) = 4294967295 from rfl] at this
  rw [this]; congr 1; exact Nat.and_two_pow_sub_one_eq_mod x 32
theorem wrap_u64 (n : Int) : IntKind.u64.wrap n = n % 18446744073709551616 := by
  simp [IntKind.wrap, IntKind.bits, IntKind.signed]
theorem half_mul {a b : Nat} (ha : a < 4294967296) (hb : b < 4294967296) : a * b ≤ 18446744065119617025 := by
  have := Nat.mul_le_mul (show a ≤ 4294967295 by omega) (show b ≤ 4294967295 by omega)
  simpa using this
theorem halves_mul (x y : Nat) : x * y = (x / 4294967296) * (y / 4294967296) * 18446744073709551616 + ((x / 4294967296) * (y % 4294967296) + (x % 4294967296) * (y / 4294967296)) * 4294967296 + (x % 4294967296) * (y % 4294967296) := by
  have h1 := Nat.div_add_mod x 4294967296
  have h2 := Nat.div_add_mod y 4294967296
  generalize x / 4294967296 = a at *
  generalize x % 4294967296 = b at *
  generalize y / 4294967296 = c at *
  generalize y % 4294967296 = d at *
  subst h1; subst h2
  grind
theorem mul_hi (x y : Nat) (hx : x < 18446744073709551616) (hy : y < 18446744073709551616) :
    IntKind.u64.wrap (IntKind.u64.wrap (IntKind.u64.wrap ((x : Int) / 4294967296 * ((y : Int) / 4294967296)) + IntKind.u64.wrap (IntKind.u64.wrap ((x : Int) / 4294967296 * bits .and .u64 (y : Int) 4294967295) + IntKind.u64.wrap (bits .and .u64 (x : Int) 4294967295 * bits .and .u64 (y : Int) 4294967295) / 4294967296) / 4294967296) +
      IntKind.u64.wrap (bits .and .u64 (IntKind.u64.wrap (IntKind.u64.wrap ((x : Int) / 4294967296 * bits .and .u64 (y : Int) 4294967295) + IntKind.u64.wrap (bits .and .u64 (x : Int) 4294967295 * bits .and .u64 (y : Int) 4294967295) / 4294967296)) 4294967295 + IntKind.u64.wrap (bits .and .u64 (x : Int) 4294967295 * ((y : Int) / 4294967296))) / 4294967296) = ((x * y / 18446744073709551616 : Nat) : Int) := by
  have e := halves_mul x y
  rw [and32 x hx, and32 y hy]
  have i1 : (x : Int) / 4294967296 = ((x / 4294967296 : Nat) : Int) := rfl
  have i2 : (y : Int) / 4294967296 = ((y / 4294967296 : Nat) : Int) := rfl
  rw [i1, i2]
  have b1 : x / 4294967296 < 4294967296 := by omega
  have b2 : y / 4294967296 < 4294967296 := by omega
  have b3 : x % 4294967296 < 4294967296 := by omega
  have b4 : y % 4294967296 < 4294967296 := by omega
  have c1 := half_mul b1 b2
  have c2 := half_mul b1 b4
  have c3 := half_mul b3 b2
  have c4 := half_mul b3 b4
  rw [← Int.natCast_mul, ← Int.natCast_mul, ← Int.natCast_mul, ← Int.natCast_mul]
  generalize (x / 4294967296) * (y / 4294967296) = P at *
  generalize (x / 4294967296) * (y % 4294967296) = Q at *
  generalize (x % 4294967296) * (y / 4294967296) = R at *
  generalize (x % 4294967296) * (y % 4294967296) = S at *
  rw [e]
  clear e i1 i2 b1 b2 b3 b4 hx hy
  have e1 : IntKind.u64.wrap (P : Int) = P := IntWalk.u64_in _ (by omega)
  have e2 : IntKind.u64.wrap (Q : Int) = Q := IntWalk.u64_in _ (by omega)
  have e3 : IntKind.u64.wrap (R : Int) = R := IntWalk.u64_in _ (by omega)
  have e4 : IntKind.u64.wrap (S : Int) = S := IntWalk.u64_in _ (by omega)
  rw [e1, e2, e3, e4]
  have e5 : IntKind.u64.wrap ((Q : Int) + S / 4294967296) = ((Q + S / 4294967296 : Nat) : Int) := by
    rw [IntWalk.u64_in _ (by omega)]; rfl
  rw [e5, and32 _ (by omega)]
  have e6 : IntKind.u64.wrap ((((Q + S / 4294967296) % 4294967296 : Nat) : Int) + R) = (((Q + S / 4294967296) % 4294967296 + R : Nat) : Int) := by
    rw [IntWalk.u64_in _ (by omega)]; rfl
  rw [e6, IntWalk.u64_in ((P : Int) + _) (by omega), IntWalk.u64_in _ (by omega)]
  omega
theorem mul_lo (x y : Nat) : IntKind.u64.wrap ((x : Int) * y) = ((x * y % 18446744073709551616 : Nat) : Int) := by
  rw [wrap_u64, ← Int.natCast_mul]; rfl
end Go.Num
