/- The numbers below the prime as a field: what the field's operations are there; Fermat's law; the curve's factor is no square. No conditions beyond those written. -/
import Derived.Test.YtdhaedjmlddjcaaPrime
import Derived.Test.YtdhaedjmlddjcaaCurve
import Derived.Test.YtdhaedjmlddjcaaPts
namespace Go.Num
open Go Go.Prm Go.Crv
instance p_nz : NeZero p := ⟨Nat.ne_of_gt p_pos⟩
/-- A number as one of the field. -/
def fe (a : Nat) : Fin p := ⟨a % p, Nat.mod_lt _ p_pos⟩
theorem fe_val (a : Nat) : (fe a).val = a % p := rfl
theorem fe_add (a b : Nat) : fe (fadd a b) = fe a + fe b := by
  apply Fin.ext
  rw [Fin.val_add]
  simp only [fe_val, fadd]
  rw [Nat.mod_mod, Nat.add_mod]
theorem fe_mul (a b : Nat) : fe (fmul a b) = fe a * fe b := by
  apply Fin.ext
  rw [Fin.val_mul]
  simp only [fe_val, fmul]
  rw [Nat.mod_mod, Nat.mul_mod]
theorem fe_sub (a b : Nat) : fe (fsub a b) = fe a - fe b := by
  apply Fin.ext
  rw [Fin.sub_def]
  simp only [fe_val, fsub]
  rw [Nat.mod_mod, Nat.add_comm (p - b % p) (a % p), Nat.mod_add_mod]
theorem fe_norm (a : Nat) : fe (fnorm a) = fe a := by
  apply Fin.ext
  simp only [fe_val, fnorm]
  rw [Nat.mod_mod]
theorem fe_inj {a b : Nat} (ha : a < p) (hb : b < p) (h : fe a = fe b) : a = b := by
  have := congrArg Fin.val h
  simp only [fe_val] at this
  rwa [Nat.mod_eq_of_lt ha, Nat.mod_eq_of_lt hb] at this
theorem fe_zero : fe 0 = 0 := by apply Fin.ext; decide +kernel
theorem fe_one : fe 1 = 1 := by apply Fin.ext; decide +kernel
theorem fe_eq_zero {a : Nat} : fe a = 0 ↔ p ∣ a := by
  rw [← fe_zero]
  constructor
  · intro h
    have := congrArg Fin.val h
    simp only [fe_val] at this
    exact Nat.dvd_of_mod_eq_zero (this.trans (Nat.zero_mod p))
  · intro h
    apply Fin.ext
    simp only [fe_val]
    rw [Nat.mod_eq_zero_of_dvd h, Nat.zero_mod]
theorem fe_self (x : Fin p) : fe x.val = x := Fin.ext (Nat.mod_eq_of_lt x.isLt)

/-! ### Powers -/
theorem fmul_mod (a b : Nat) : fmul (a % p) (b % p) = a * b % p := (Nat.mul_mod a b p).symm
theorem powF_fold (a n : Nat) (hn : n < 2 ^ 256) : ∀ (k m : Nat), m + k = 256 → (hiBits n m).foldl (sqm a) 1 = a ^ (n / 2 ^ m) % p
  | 0, m, h => by
    obtain rfl : m = 256 := by omega
    rw [hiBits_start, Nat.div_eq_of_lt hn, Nat.pow_zero]
    exact (Nat.mod_eq_of_lt one_lt).symm
  | k + 1, m, h => by
    have ih := powF_fold a n hn k (m + 1) (by omega)
    rw [hiBits_step n m (by omega), List.foldl_append, ih]
    show sqm a (a ^ (n / 2 ^ (m + 1)) % p) (n.testBit m) = _
    have h2 : n / 2 ^ m = 2 * (n / 2 ^ (m + 1)) + (n / 2 ^ m) % 2 := by
      rw [Nat.pow_succ, ← Nat.div_div_eq_div_mul]; omega
    have h3 : n.testBit m = decide (n / 2 ^ m % 2 = 1) := Nat.testBit_eq_decide_div_mod_eq
    generalize n / 2 ^ (m + 1) = q at *
    generalize n / 2 ^ m = r at *
    have h4 : a ^ (2 * q) = a ^ q * a ^ q := by rw [← Nat.pow_add]; congr 1; omega
    rcases (show r % 2 = 0 ∨ r % 2 = 1 by omega) with h0 | h0
    · rw [h3, h0]
      show fmul _ _ = _
      rw [fmul_mod, h2, h0, Nat.add_zero, h4]
    · rw [h3, h0]
      show fmul (fmul _ _) _ = _
      rw [fmul_mod, h2, h0, Nat.pow_succ, h4]
      unfold fmul
      rw [Nat.mod_mul_mod]
theorem powF_eq (a n : Nat) (hn : n < 2 ^ 256) : powF a n = a ^ n % p := by
  have := powF_fold a n hn 256 0 rfl
  rwa [Nat.pow_zero, Nat.div_one] at this
theorem p_256 : p < 2 ^ 256 := by decide +kernel
theorem finv_mul {a : Nat} (h : ¬ p ∣ a) : fe a * fe (finv a) = 1 := by
  rw [← fe_mul, ← fe_one]
  apply Fin.ext
  simp only [fe_val]
  unfold finv fmul
  rw [powF_eq _ _ (Nat.lt_of_le_of_lt (Nat.sub_le _ _) p_256), Nat.mod_mod, Nat.mul_mod_mod, show a * a ^ (p - 2) = a ^ (p - 1) by rw [← Nat.pow_succ']; congr 1, prm_p.fermat h]
  exact (Nat.mod_eq_of_lt one_lt).symm
theorem finv_zero {a : Nat} (h : p ∣ a) : finv a = 0 := by
  unfold finv
  rw [powF_eq _ _ (Nat.lt_of_le_of_lt (Nat.sub_le _ _) p_256)]
  exact Nat.mod_eq_zero_of_dvd (Nat.dvd_trans h (dvd_pow_me a (by decide)))
/-- The inverse there. -/
def inv (x : Fin p) : Fin p := fe (finv x.val)
theorem fe_finv (a : Nat) (ha : a < p) : fe (finv a) = inv (fe a) := by
  unfold inv
  rw [fe_val, Nat.mod_eq_of_lt ha]

/-! ### The factor is no square -/
theorem mod_mul_eq {a b c d : Nat} (h1 : a % p = b % p) (h2 : c % p = d % p) : a * c % p = b * d % p := by
  rw [Nat.mul_mod, h1, h2, ← Nat.mul_mod]
theorem mod_pow_eq {a b : Nat} (h : a % p = b % p) (k : Nat) : a ^ k % p = b ^ k % p := by
  rw [Nat.pow_mod, h, ← Nat.pow_mod]
theorem dd_pow : pmod p 256 dd ((p - 1) / 2) = p - 1 := by decide +kernel
theorem half_p : 2 * ((p - 1) / 2) = p - 1 := by decide +kernel
theorem square_pow {x : Nat} (h : ¬ p ∣ x) : (x * x) ^ ((p - 1) / 2) % p = 1 := by
  rw [← Nat.pow_two, ← Nat.pow_mul, half_p]
  exact prm_p.fermat h
theorem dd_no_square {a b : Nat} (h : a * a % p = dd * (b * b) % p) : p ∣ b := by
  refine Classical.byContradiction fun hb => ?_
  have hdd : ¬ p ∣ dd := fun hd => by have := Nat.le_of_dvd (by decide) hd; exact absurd this (by decide)
  have ha : ¬ p ∣ a := fun ha => by
    rw [Nat.mod_eq_zero_of_dvd (Nat.dvd_trans ha (Nat.dvd_mul_right a a))] at h
    rcases prm_p.dvd_mul (Nat.dvd_of_mod_eq_zero h.symm) with h1 | h1
    · exact hdd h1
    · rcases prm_p.dvd_mul h1 with h2 | h2 <;> exact hb h2
  have h1 := mod_pow_eq h ((p - 1) / 2)
  rw [square_pow ha, Nat.mul_pow, Nat.mul_mod, square_pow hb, Nat.mul_one, Nat.mod_mod] at h1
  rw [← pmod_eq p 256 dd ((p - 1) / 2) (by decide +kernel), dd_pow] at h1
  exact absurd h1 (by decide)
/-- A root of -1. -/
def im : Nat := 19681161376707505956807079304988542015446066515923890162744021073123829784752
theorem im_sq : fmul im im = p - 1 := by decide +kernel
theorem fe_m1 : fe (p - 1) = -1 := by apply Fin.ext; decide +kernel
theorem good : Crv.Good (fe dd) inv (fe im) where
  inv := fun a ha => by
    have h : ¬ p ∣ a.val := fun hd => ha (by rw [← fe_self a]; exact fe_eq_zero.2 hd)
    have := finv_mul h
    rw [fe_self] at this
    exact this
  root := by rw [← fe_mul, im_sq, fe_m1]
  sq := fun a b h => by
    have h1 := congrArg Fin.val h
    simp only [Fin.val_mul, fe_val] at h1
    have h2 : p ∣ b.val := dd_no_square (a := a.val) (b := b.val) (by
      rw [h1, Nat.mul_mod dd])
    rw [← fe_self b]
    exact fe_eq_zero.2 h2
  two := by
    intro h
    have := congrArg Fin.val h
    exact absurd this (by decide +kernel)
  one := by
    intro h
    have := congrArg Fin.val h
    exact absurd this (by decide +kernel)
end Go.Num
