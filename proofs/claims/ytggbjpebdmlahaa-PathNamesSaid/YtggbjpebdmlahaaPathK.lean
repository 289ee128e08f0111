/- Base32's number: plain lemmas. -/
import Derived.Test.YtggbjpebdmlahaaPathJ
namespace Go.Num
open Go Go.RowKit
/-- The number of n bytes, the lowest first. -/
def leN (f : Nat → Nat) : Nat → Nat
  | 0 => 0
  | k + 1 => leN f k + f k * 256 ^ k
theorem leN_step (f : Nat → Nat) (k t h : Nat) (e : 8 * k = 5 * t + h) : leN f (k + 1) / 32 ^ t = leN f k / 32 ^ t + f k * 2 ^ h := by
  have h1 : 256 ^ k = 32 ^ t * 2 ^ h := by
    rw [show (256 : Nat) = 2 ^ 8 from rfl, show (32 : Nat) = 2 ^ 5 from rfl, ← Nat.pow_mul, ← Nat.pow_mul, ← Nat.pow_add, e]
  show (leN f k + f k * 256 ^ k) / 32 ^ t = _
  rw [h1, show f k * (32 ^ t * 2 ^ h) = 32 ^ t * (f k * 2 ^ h) from by rw [Nat.mul_left_comm]]
  exact Nat.add_mul_div_left _ _ (Nat.pow_pos (by decide))
/-- Digit j of n bytes. -/
def digN (f : Nat → Nat) (n j : Nat) : Nat := leN f n / 32 ^ j % 32
theorem leN_more (f : Nat → Nat) (k : Nat) : ∀ d, ∃ q, leN f (k + d) = leN f k + 256 ^ k * q
  | 0 => ⟨0, by simp⟩
  | d + 1 => by
    obtain ⟨q, hq⟩ := leN_more f k d
    refine ⟨q + f (k + d) * 256 ^ d, ?_⟩
    show leN f (k + d) + f (k + d) * 256 ^ (k + d) = _
    rw [hq, Nat.mul_add, Nat.pow_add, Nat.add_assoc]
    congr 2
    rw [Nat.mul_left_comm]
theorem digN_part (f : Nat → Nat) (n k t : Nat) (hk : k ≤ n) (h : 5 * (t + 1) ≤ 8 * k) : leN f k / 32 ^ t % 32 = digN f n t := by
  obtain ⟨q, hq⟩ := leN_more f k (n - k)
  rw [show k + (n - k) = n by omega] at hq
  have h1 : 256 ^ k = 32 ^ t * (32 * 2 ^ (8 * k - 5 * (t + 1))) := by
    rw [show (256 : Nat) = 2 ^ 8 from rfl, show (32 : Nat) = 2 ^ 5 from rfl, ← Nat.pow_mul, ← Nat.pow_mul, ← Nat.pow_add, ← Nat.pow_add]
    congr 1
    omega
  unfold digN
  rw [hq, h1, Nat.mul_assoc, Nat.add_mul_div_left _ _ (Nat.pow_pos (by decide)), Nat.mul_assoc, Nat.add_mul_mod_self_left]
end Go.Num
