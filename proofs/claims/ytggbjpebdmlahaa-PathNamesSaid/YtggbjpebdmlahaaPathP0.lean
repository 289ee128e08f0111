/- The bytes of 32 letters: plain lemmas, no conditions. -/
import Derived.Test.YtggbjpebdmlahaaPathO
import Derived.Test.YtggbjpebdmlahaaHashD
namespace Go.Num
open Go Go.RowKit
/-- The number of k digits, the lowest first. -/
def valN (g : Nat → Nat) : Nat → Nat
  | 0 => 0
  | k + 1 => valN g k + g k * 32 ^ k
theorem valN_step (g : Nat → Nat) (k t h : Nat) (e : 5 * k = 8 * t + h) : valN g (k + 1) / 256 ^ t = valN g k / 256 ^ t + g k * 2 ^ h := by
  have h1 : 32 ^ k = 256 ^ t * 2 ^ h := by
    rw [show (256 : Nat) = 2 ^ 8 from rfl, show (32 : Nat) = 2 ^ 5 from rfl, ← Nat.pow_mul, ← Nat.pow_mul, ← Nat.pow_add, e]
  show (valN g k + g k * 32 ^ k) / 256 ^ t = _
  rw [h1, show g k * (256 ^ t * 2 ^ h) = 256 ^ t * (g k * 2 ^ h) from by rw [Nat.mul_left_comm]]
  exact Nat.add_mul_div_left _ _ (Nat.pow_pos (by decide))
theorem valN_lt (g : Nat → Nat) : ∀ k, (∀ j, j < k → g j < 32) → valN g k < 32 ^ k
  | 0, _ => by show 0 < 1; decide
  | k + 1, hg => by
    have ih := valN_lt g k (fun j hj => hg j (by omega))
    have h1 : g k * 32 ^ k ≤ 31 * 32 ^ k := Nat.mul_le_mul_right _ (by have := hg k (by omega); omega)
    show valN g k + g k * 32 ^ k < 32 ^ (k + 1)
    rw [Nat.pow_succ]
    omega
theorem valN_part (g : Nat → Nat) (k t h : Nat) (hg : ∀ j, j < k → g j < 32) (e : 5 * k = 8 * t + h) : valN g k / 256 ^ t < 2 ^ h := by
  have h1 : 32 ^ k = 256 ^ t * 2 ^ h := by
    rw [show (256 : Nat) = 2 ^ 8 from rfl, show (32 : Nat) = 2 ^ 5 from rfl, ← Nat.pow_mul, ← Nat.pow_mul, ← Nat.pow_add, e]
  rw [Nat.div_lt_iff_lt_mul (Nat.pow_pos (by decide)), Nat.mul_comm, ← h1]
  exact valN_lt g k hg
theorem valN_more (g : Nat → Nat) (k : Nat) : ∀ d, ∃ q, valN g (k + d) = valN g k + 32 ^ k * q
  | 0 => ⟨0, by simp⟩
  | d + 1 => by
    obtain ⟨q, hq⟩ := valN_more g k d
    refine ⟨q + g (k + d) * 32 ^ d, ?_⟩
    show valN g (k + d) + g (k + d) * 32 ^ (k + d) = _
    rw [hq, Nat.mul_add, Nat.pow_add, Nat.add_assoc]
    congr 2
    rw [Nat.mul_left_comm]
/-- Byte i of n digits. -/
def byV (g : Nat → Nat) (n i : Nat) : Nat := valN g n / 256 ^ i % 256
theorem byV_part (g : Nat → Nat) (n k t : Nat) (hk : k ≤ n) (h : 8 * (t + 1) ≤ 5 * k) : valN g k / 256 ^ t % 256 = byV g n t := by
  obtain ⟨q, hq⟩ := valN_more g k (n - k)
  rw [show k + (n - k) = n by omega] at hq
  have h1 : 32 ^ k = 256 ^ t * (256 * 2 ^ (5 * k - 8 * (t + 1))) := by
    rw [show (256 : Nat) = 2 ^ 8 from rfl, show (32 : Nat) = 2 ^ 5 from rfl, ← Nat.pow_mul, ← Nat.pow_mul, ← Nat.pow_add, ← Nat.pow_add]
    congr 1
    omega
  unfold byV
  rw [hq, h1, Nat.mul_assoc, Nat.add_mul_div_left _ _ (Nat.pow_pos (by decide)), Nat.mul_assoc, Nat.add_mul_mod_self_left]
theorem byV_lt (g : Nat → Nat) (n i : Nat) : byV g n i < 256 := Nat.mod_lt _ (by decide)
theorem leN_byV (g : Nat → Nat) (n : Nat) : ∀ k, leN (byV g n) k = valN g n % 256 ^ k
  | 0 => by rw [Nat.pow_zero, Nat.mod_one]; rfl
  | k + 1 => by
    show leN (byV g n) k + byV g n k * 256 ^ k = _
    rw [leN_byV g n k]
    unfold byV
    rw [Nat.pow_succ, Nat.mod_mul, Nat.mul_comm (256 ^ k)]
theorem valN_dig (g : Nat → Nat) (n j : Nat) (hj : j < n) (hg : ∀ j, j < n → g j < 32) : valN g n / 32 ^ j % 32 = g j := by
  obtain ⟨q, hq⟩ := valN_more g (j + 1) (n - (j + 1))
  rw [show j + 1 + (n - (j + 1)) = n by omega] at hq
  have h1 := valN_lt g j (fun i hi => hg i (by omega))
  have h2 := hg j hj
  rw [hq, Nat.pow_succ, Nat.mul_assoc, Nat.add_mul_div_left _ _ (Nat.pow_pos (by decide))]
  have e : valN g (j + 1) / 32 ^ j = g j := by
    show (valN g j + g j * 32 ^ j) / 32 ^ j = g j
    rw [Nat.add_mul_div_right _ _ (Nat.pow_pos (by decide)), Nat.div_eq_of_lt h1, Nat.zero_add]
  rw [e, Nat.add_mul_mod_self_left, Nat.mod_eq_of_lt h2]
/-- A text that may be a part. -/
def mayPart (f : Nat → Nat) (n : Nat) : Bool := n == 32 && (List.range n).all fun j => decide (0 ≤ val32 (f j))
/-- Letters that are values, by the bytes that they say: the same letters. -/
theorem back32 (f : Nat → Nat) (hf : ∀ j, f j < 256) (hv : ∀ j, j < 32 → 0 ≤ val32 (f j)) : bstr (b32S (byV (fun j => (val32 (f (32 - 1 - j))).toNat) 32) 20) (len32 20) = bstr f 32 := by
  have hl : len32 20 = 32 := rfl
  rw [hl]
  apply bstr_congr
  intro j hj
  have hg : ∀ i, i < 32 → (val32 (f (32 - 1 - i))).toNat < 32 := fun i hi => by
    rcases val32_cases ⟨f (32 - 1 - i), hf _⟩ with h | ⟨h1, h2, _⟩
    · have := hv (32 - 1 - i) (by omega)
      simp only at h
      omega
    · simp only at h1 h2
      omega
  have h256 : (256 : Nat) ^ 20 = 32 ^ 32 := by decide
  have e1 : digN (byV (fun j => (val32 (f (32 - 1 - j))).toNat) 32) 20 (31 - j) = (val32 (f j)).toNat := by
    unfold digN
    rw [leN_byV, h256, Nat.mod_eq_of_lt (valN_lt _ 32 hg), valN_dig _ 32 (31 - j) (by omega) hg]
    show (val32 (f (32 - 1 - (31 - j)))).toNat = _
    rw [show 32 - 1 - (31 - j) = j by omega]
  unfold b32S b32
  rw [hl, show 32 - 1 - j = 31 - j by omega, e1]
  rcases val32_cases ⟨f j, hf _⟩ with h | ⟨_, _, h⟩
  · have := hv j hj
    simp only at h
    omega
  · exact h
end Go.Num
