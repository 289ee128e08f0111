/- The number of some bytes, the lowest first. Plain lemmas, no conditions. -/
import Derived.Test.YtdhaedjmlddjcaaRowB
import Derived.Laws.Bits64b
namespace Go.Num
open Go Go.RowKit

def numOf (f : Nat → Nat) : Nat → Nat
  | 0 => 0
  | k + 1 => numOf f k + f k * 256 ^ k
theorem numOf_lt (f : Nat → Nat) (hf : ∀ j, f j < 256) : ∀ k, numOf f k < 256 ^ k
  | 0 => by simp [numOf]
  | k + 1 => by
    have h1 := numOf_lt f hf k
    have h2 : f k * 256 ^ k ≤ 255 * 256 ^ k := Nat.mul_le_mul_right _ (by have := hf k; omega)
    simp only [numOf, Nat.pow_succ]
    omega
theorem pow256 (k : Nat) : 256 ^ k = 2 ^ (k % 8 * 8) * W ^ (k / 8) := by
  have hW : W = 2 ^ 64 := rfl
  rw [hW, show (256 : Nat) = 2 ^ 8 from rfl, ← Nat.pow_mul, ← Nat.pow_mul, ← Nat.pow_add]
  congr 1
  omega
theorem W_pos' (j : Nat) : 0 < W ^ j := Nat.pow_pos (by decide)
theorem wd_add_other (n c q j : Nat) (hn : n + c * W ^ q < W ^ (q + 1)) (hj : j ≠ q) : wd (n + c * W ^ q) j = wd n j := by
  unfold wd
  rcases Nat.lt_or_gt_of_ne hj with h | h
  · have e : W ^ q = W ^ j * (W * W ^ (q - j - 1)) := by
      rw [← Nat.pow_succ', ← Nat.pow_add]
      congr 1
      omega
    rw [e, show c * (W ^ j * (W * W ^ (q - j - 1))) = W ^ j * (W * (c * W ^ (q - j - 1))) by ac_rfl, Nat.add_mul_div_left _ _ (W_pos' j), Nat.add_mul_mod_self_left]
  · have h1 : W ^ (q + 1) ≤ W ^ j := Nat.pow_le_pow_right (by decide) h
    rw [Nat.div_eq_of_lt (Nat.lt_of_lt_of_le hn h1), Nat.div_eq_of_lt (by omega)]
theorem wd_add_at (n c q : Nat) (hn : n + c * W ^ q < W ^ (q + 1)) : wd (n + c * W ^ q) q = wd n q + c := by
  unfold wd
  have h0 : (n + c * W ^ q) / W ^ q = n / W ^ q + c := by rw [Nat.mul_comm, Nat.add_mul_div_left _ _ (W_pos' q)]
  have h2 : (n + c * W ^ q) / W ^ q < W := (Nat.div_lt_iff_lt_mul (W_pos' q)).2 (by rw [Nat.pow_succ, Nat.mul_comm (W ^ q) W] at hn; exact hn)
  rw [Nat.mod_eq_of_lt h2, h0]
  rw [h0] at h2
  rw [Nat.mod_eq_of_lt (by omega)]
theorem byte_fits (f : Nat → Nat) (hf : ∀ j, f j < 256) (k : Nat) : numOf f k + f k * 2 ^ (k % 8 * 8) * W ^ (k / 8) < W ^ (k / 8 + 1) := by
  have h := numOf_lt f hf (k + 1)
  simp only [numOf] at h
  rw [pow256 k, ← Nat.mul_assoc] at h
  refine Nat.lt_of_lt_of_le h ?_
  have hW : W = 2 ^ 64 := rfl
  rw [hW, show (256 : Nat) = 2 ^ 8 from rfl, ← Nat.pow_mul, ← Nat.pow_mul]
  exact Nat.pow_le_pow_right (by decide) (by omega)
theorem numOf_succ (f : Nat → Nat) (k : Nat) : numOf f (k + 1) = numOf f k + f k * 2 ^ (k % 8 * 8) * W ^ (k / 8) := by
  simp only [numOf]
  rw [pow256 k, Nat.mul_assoc]
theorem wd_numOf (f : Nat → Nat) (hf : ∀ j, f j < 256) (k j : Nat) : wd (numOf f (k + 1)) j = if j = k / 8 then wd (numOf f k) j + f k * 2 ^ (k % 8 * 8) else wd (numOf f k) j := by
  rw [numOf_succ]
  split
  · rename_i h; subst h; exact wd_add_at _ _ _ (byte_fits f hf k)
  · rename_i h; exact wd_add_other _ _ _ _ (byte_fits f hf k) h
theorem lowb_lt (f : Nat → Nat) (hf : ∀ j, f j < 256) (k : Nat) : wd (numOf f k) (k / 8) < 2 ^ (k % 8 * 8) := by
  unfold wd
  have h1 : numOf f k / W ^ (k / 8) < 2 ^ (k % 8 * 8) := (Nat.div_lt_iff_lt_mul (W_pos' _)).2 (by rw [← pow256]; exact numOf_lt f hf k)
  exact Nat.lt_of_le_of_lt (Nat.mod_le _ _) h1
theorem or_byte (f : Nat → Nat) (hf : ∀ j, f j < 256) (k : Nat) : bits .or .u64 (wd (numOf f k) (k / 8) : Int) ((f k * 2 ^ (k % 8 * 8) : Nat) : Int) = (wd (numOf f (k + 1)) (k / 8) : Int) := by
  have h1 : f k * 2 ^ (k % 8 * 8) < 18446744073709551616 := by
    have h2 : f k * 2 ^ (k % 8 * 8) < 256 * 2 ^ (k % 8 * 8) := Nat.mul_lt_mul_of_pos_right (hf k) (Nat.pow_pos (by decide))
    have h3 : 256 * 2 ^ (k % 8 * 8) ≤ 2 ^ 64 := by
      rw [show (256 : Nat) = 2 ^ 8 from rfl, ← Nat.pow_add]
      exact Nat.pow_le_pow_right (by decide) (by omega)
    exact Nat.lt_of_lt_of_le h2 h3
  rw [bits_or_u64_nat _ _ (wd_lt _ _) h1, wd_numOf f hf k, if_pos rfl, Nat.or_comm, Nat.mul_comm, ← Nat.two_pow_add_eq_or_of_lt (lowb_lt f hf k), Nat.add_comm, Nat.mul_comm]
theorem cells4_byte (f : Nat → Nat) (hf : ∀ j, f j < 256) (k : Nat) (hk : k < 32) : (cells4 (numOf f k)).setIfInBounds (k / 8) (.int .u64 (wd (numOf f (k + 1)) (k / 8))) = cells4 (numOf f (k + 1)) := by
  have h := wd_numOf f hf k
  have hq : k / 8 = 0 ∨ k / 8 = 1 ∨ k / 8 = 2 ∨ k / 8 = 3 := by omega
  unfold cells4
  generalize numOf f (k + 1) = B at *
  generalize numOf f k = A at *
  rcases hq with e | e | e | e
  · rw [e] at h ⊢
    have h1 := h 1; have h2 := h 2; have h3 := h 3
    simp at h1 h2 h3
    rw [h1, h2, h3]; rfl
  · rw [e] at h ⊢
    have h1 := h 0; have h2 := h 2; have h3 := h 3
    simp at h1 h2 h3
    rw [h1, h2, h3]; rfl
  · rw [e] at h ⊢
    have h1 := h 0; have h2 := h 1; have h3 := h 3
    simp at h1 h2 h3
    rw [h1, h2, h3]; rfl
  · rw [e] at h ⊢
    have h1 := h 0; have h2 := h 1; have h3 := h 2
    simp at h1 h2 h3
    rw [h1, h2, h3]; rfl
end Go.Num
