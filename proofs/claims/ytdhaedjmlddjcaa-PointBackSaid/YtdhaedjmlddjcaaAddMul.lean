/- Sums and products word by word, in numbers: plain lemmas, no conditions. -/
import Derived.Test.YtdhaedjmlddjcaaNorm
namespace Go.Num
open Go Go.RowKit

theorem Wpos (k : Nat) : 0 < W ^ k := Nat.pow_pos (by decide)
theorem wd_mod (n : Nat) {j m : Nat} (h : j < m) : wd (n % W ^ m) j = wd n j := by
  unfold wd
  rw [show m = j + (m - j) by omega, Nat.pow_add, Nat.mod_mul_right_div_self, Nat.mod_mod_of_dvd]
  exact Nat.dvd_trans (by rw [Nat.pow_one]; exact Nat.dvd_refl _) (Nat.pow_dvd_pow W (show 1 ≤ m - j by omega))

/-! ### A sum -/
def cadd (a b k : Nat) : Nat := (a % W ^ k + b % W ^ k) / W ^ k
theorem cadd_zero (a b : Nat) : cadd a b 0 = 0 := by simp [cadd, Nat.mod_one]
theorem cadd_le (a b k : Nat) : cadd a b k ≤ 1 := by
  unfold cadd
  have h1 := Nat.mod_lt a (Wpos k); have h2 := Nat.mod_lt b (Wpos k)
  have : (a % W ^ k + b % W ^ k) / W ^ k < 2 := Nat.div_lt_of_lt_mul (by omega)
  omega
theorem cadd_succ (a b k : Nat) : (wd a k + wd b k + cadd a b k) / 18446744073709551616 = cadd a b (k + 1) := by
  unfold cadd
  rw [mod_pow_succ, mod_pow_succ, Nat.pow_succ, ← Nat.div_div_eq_div_mul, show (18446744073709551616 : Nat) = W from rfl]
  congr 1
  rw [show a % W ^ k + wd a k * W ^ k + (b % W ^ k + wd b k * W ^ k) = (a % W ^ k + b % W ^ k) + (wd a k + wd b k) * W ^ k by rw [Nat.add_mul]; omega, Nat.add_mul_div_right _ _ (Wpos k)]
  omega
theorem cadd_word' (a b k : Nat) : (wd a k + wd b k + cadd a b k) % 18446744073709551616 = wd (a + b) k := by
  unfold wd cadd
  have h2 : (a + b) / W ^ k = a / W ^ k + b / W ^ k + (a % W ^ k + b % W ^ k) / W ^ k := by
    have e1 := Nat.div_add_mod a (W ^ k); have e2 := Nat.div_add_mod b (W ^ k)
    conv => lhs; rw [← e1, ← e2]
    rw [show W ^ k * (a / W ^ k) + a % W ^ k + (W ^ k * (b / W ^ k) + b % W ^ k) = W ^ k * (a / W ^ k + b / W ^ k) + (a % W ^ k + b % W ^ k) by rw [Nat.mul_add]; omega, Nat.mul_add_div (Wpos k)]
  rw [h2, show (18446744073709551616 : Nat) = W from rfl]
  rw [Nat.add_mod (a / W ^ k % W + b / W ^ k % W), Nat.add_mod (a / W ^ k + b / W ^ k)]
  rw [← Nat.add_mod (a / W ^ k)]
theorem cadd_word (a b k : Nat) (hk : k < 4) : (wd a k + wd b k + cadd a b k) % 18446744073709551616 = wd ((a + b) % W ^ 4) k := by
  rw [wd_mod _ hk, cadd_word']

/-! ### A word of a number set anew -/
def setw (n j v : Nat) : Nat := n / W ^ (j + 1) * W ^ (j + 1) + v * W ^ j + n % W ^ j
theorem split_at (n j : Nat) : n = n / W ^ (j + 1) * W ^ (j + 1) + wd n j * W ^ j + n % W ^ j := by
  have h1 := Nat.div_add_mod n (W ^ (j + 1))
  have h2 := mod_pow_succ n j
  rw [Nat.mul_comm] at h1
  rw [Nat.add_assoc, Nat.add_comm (wd n j * W ^ j), ← h2]
  exact h1.symm
theorem setw_val (n j v : Nat) : setw n j v + wd n j * W ^ j = n + v * W ^ j := by
  have := split_at n j
  unfold setw
  generalize n / W ^ (j + 1) * W ^ (j + 1) = x at *
  generalize wd n j * W ^ j = y at *
  generalize n % W ^ j = z at *
  generalize v * W ^ j = u at *
  omega
theorem setw_low (n j v : Nat) : setw n j v % W ^ j = n % W ^ j := by
  unfold setw
  rw [Nat.pow_succ, Nat.mul_comm (W ^ j) W, ← Nat.mul_assoc, ← Nat.add_mul, Nat.mul_comm, Nat.mul_add_mod, Nat.mod_mod]
theorem below_next (n j v : Nat) (hv : v < W) : v * W ^ j + n % W ^ j < W * W ^ j := by
  have h1 := Nat.mod_lt n (Wpos j)
  have this : (v + 1) * W ^ j ≤ W * W ^ j := Nat.mul_le_mul_right _ hv
  rw [Nat.add_mul, Nat.one_mul] at this
  exact Nat.lt_of_lt_of_le (Nat.add_lt_add_left h1 _) this
theorem setw_high (n j v : Nat) (hv : v < W) : setw n j v / W ^ (j + 1) = n / W ^ (j + 1) := by
  have h2 := below_next n j v hv
  rw [Nat.mul_comm W, ← Nat.pow_succ] at h2
  have hP := Wpos (j + 1)
  unfold setw
  generalize W ^ (j + 1) = P at *
  rw [Nat.add_assoc, Nat.add_comm, Nat.add_mul_div_right _ _ hP, Nat.div_eq_of_lt h2, Nat.zero_add]
theorem wd_setw (n j v i : Nat) (hv : v < W) : wd (setw n j v) i = if i = j then v else wd n i := by
  rcases Nat.lt_trichotomy i j with h | h | h
  · rw [if_neg (by omega), ← wd_mod (setw n j v) h, setw_low, wd_mod _ h]
  · subst h
    rw [if_pos rfl]
    unfold wd
    have : setw n i v / W ^ i = n / W ^ (i + 1) * W + v := by
      unfold setw
      rw [Nat.pow_succ, Nat.mul_comm (W ^ i) W, ← Nat.mul_assoc, ← Nat.add_mul, Nat.mul_comm _ (W ^ i), Nat.mul_add_div (Wpos i), Nat.div_eq_of_lt (Nat.mod_lt n (Wpos i)), Nat.add_zero, Nat.mul_comm W]
    rw [this, Nat.mul_comm, Nat.mul_add_mod, Nat.mod_eq_of_lt hv]
  · rw [if_neg (by omega)]
    unfold wd
    rw [show i = (j + 1) + (i - (j + 1)) by omega, Nat.pow_add, ← Nat.div_div_eq_div_mul, ← Nat.div_div_eq_div_mul, setw_high n j v hv]
theorem setw_lt {n j v m : Nat} (hj : j < m) (hv : v < W) (hn : n < W ^ m) : setw n j v < W ^ m := by
  have h1 : setw n j v / W ^ m = 0 := by
    rw [show m = (j + 1) + (m - (j + 1)) by omega, Nat.pow_add, ← Nat.div_div_eq_div_mul, setw_high n j v hv, Nat.div_div_eq_div_mul, ← Nat.pow_add, show (j + 1) + (m - (j + 1)) = m by omega]
    exact Nat.div_eq_of_lt hn
  exact (Nat.div_eq_zero_iff.1 h1).resolve_left (Nat.ne_of_gt (Wpos m))
def cells8 (n : Nat) : Array Value := #[.int .u64 (wd n 0), .int .u64 (wd n 1), .int .u64 (wd n 2), .int .u64 (wd n 3), .int .u64 (wd n 4), .int .u64 (wd n 5), .int .u64 (wd n 6), .int .u64 (wd n 7)]
theorem lt8 {k : Nat} (h : k < 8) : k = 0 ∨ k = 1 ∨ k = 2 ∨ k = 3 ∨ k = 4 ∨ k = 5 ∨ k = 6 ∨ k = 7 := by omega
theorem cells8_set (n j v : Nat) (hj : j < 8) (hv : v < W) : (cells8 n).setIfInBounds j (.int .u64 v) = cells8 (setw n j v) := by
  have h := fun i => wd_setw n j v i hv
  unfold cells8
  rcases lt8 hj with rfl | rfl | rfl | rfl | rfl | rfl | rfl | rfl <;> simp [h]
theorem cells8_at {w : World} {b n : Nat} {t : TypeId} {z : Nat × Nat} (h : w.heap[b]? = some (.cells (cells8 n) t z)) (o : Nat) (ho : o < 8) : w.cell? ⟨b, o, none⟩ = some (.int .u64 (wd n o)) := by
  rw [cell_of h]
  rcases lt8 ho with rfl | rfl | rfl | rfl | rfl | rfl | rfl | rfl <;> rfl
theorem cells8_zero : cells8 0 = #[.int .u64 0, .int .u64 0, .int .u64 0, .int .u64 0, .int .u64 0, .int .u64 0, .int .u64 0, .int .u64 0] := by simp [cells8, wd_zero]
theorem cells4_set (n j v : Nat) (hj : j < 4) (hv : v < W) : (cells4 n).setIfInBounds j (.int .u64 v) = cells4 (setw n j v) := by
  have h := fun i => wd_setw n j v i hv
  unfold cells4
  rcases lt4 hj with rfl | rfl | rfl | rfl <;> simp [h]

/-! ### A product -/
/-- The inner round. -/
theorem mul_round {N c T x y d i k : Nat} (hinv : N + c * W ^ (i + k) = T + x * W ^ i * (d % W ^ k)) (hy : wd d k = y) :
    setw N (i + k) ((x * y + c + wd N (i + k)) % W) + (x * y + c + wd N (i + k)) / W * W ^ (i + (k + 1)) = T + x * W ^ i * (d % W ^ (k + 1)) := by
  have h1 := setw_val N (i + k) ((x * y + c + wd N (i + k)) % W)
  have h2 := Nat.div_add_mod (x * y + c + wd N (i + k)) W
  have h3 : (x * y + c + wd N (i + k)) / W * W ^ (i + (k + 1)) = W * ((x * y + c + wd N (i + k)) / W) * W ^ (i + k) := by
    rw [← Nat.add_assoc, Nat.pow_succ, Nat.mul_comm (W ^ (i + k)) W, ← Nat.mul_assoc, Nat.mul_comm ((x * y + c + wd N (i + k)) / W) W]
  have h4 : x * W ^ i * (d % W ^ (k + 1)) = x * W ^ i * (d % W ^ k) + x * y * W ^ (i + k) := by
    rw [mod_pow_succ, hy, Nat.mul_add, Nat.pow_add, show x * W ^ i * (y * W ^ k) = x * y * (W ^ i * W ^ k) by rw [Nat.mul_assoc, Nat.mul_assoc, Nat.mul_left_comm (W ^ i) y]]
  rw [h3, h4]
  generalize (x * y + c + wd N (i + k)) / W = q at *
  generalize (x * y + c + wd N (i + k)) % W = r at *
  have h5 : (W * q + r) * W ^ (i + k) = (x * y + c + wd N (i + k)) * W ^ (i + k) := by rw [h2]
  rw [Nat.add_mul, Nat.add_mul, Nat.add_mul] at h5
  generalize setw N (i + k) r = s at *
  generalize W * q * W ^ (i + k) = g1 at *
  generalize r * W ^ (i + k) = g2 at *
  generalize x * y * W ^ (i + k) = g3 at *
  generalize c * W ^ (i + k) = g4 at *
  generalize wd N (i + k) * W ^ (i + k) = g5 at *
  generalize x * W ^ i * (d % W ^ k) = g6 at *
  omega

/-! ### The words of a round, behind names -/
def proHi (x y : Nat) : Nat := x * y / 18446744073709551616
def proLo (x y : Nat) : Nat := x * y % 18446744073709551616
def sumHi (x y : Nat) : Nat := (x + y) / 18446744073709551616
def sumLo (x y : Nat) : Nat := (x + y) % 18446744073709551616
def hi1 (x y c : Nat) : Nat := (x * y + c) / 18446744073709551616
def hi2 (x y c o : Nat) : Nat := (x * y + c + o) / 18446744073709551616
def lo2 (x y c o : Nat) : Nat := (x * y + c + o) % 18446744073709551616
theorem word_mul {x y : Nat} (hx : x < 18446744073709551616) (hy : y < 18446744073709551616) : x * y ≤ 340282366920938463426481119284349108225 := by
  have := Nat.mul_le_mul (show x ≤ 18446744073709551615 by omega) (show y ≤ 18446744073709551615 by omega)
  simpa using this
theorem wrap_hi1 {x y c : Nat} (hx : x < 18446744073709551616) (hy : y < 18446744073709551616) (hc : c < 18446744073709551616) :
    IntKind.u64.wrap ((proHi x y : Int) + (sumHi (proLo x y) c : Int)) = (hi1 x y c : Int) := by
  have := word_mul hx hy
  unfold proHi sumHi proLo hi1
  generalize x * y = P at *
  rw [IntWalk.u64_in _ (by omega)]; omega
theorem sum_lo2 {x y c o : Nat} : sumLo (sumLo (proLo x y) c) o = lo2 x y c o := by
  unfold sumLo proLo lo2; generalize x * y = P; omega
theorem wrap_hi2 {x y c o : Nat} (hx : x < 18446744073709551616) (hy : y < 18446744073709551616) (hc : c < 18446744073709551616) (ho : o < 18446744073709551616) :
    IntKind.u64.wrap ((hi1 x y c : Int) + (sumHi (sumLo (proLo x y) c) o : Int)) = (hi2 x y c o : Int) := by
  have := word_mul hx hy
  unfold hi1 sumHi sumLo proLo hi2
  generalize x * y = P at *
  rw [IntWalk.u64_in _ (by omega)]; omega
theorem hi2_lt {x y c o : Nat} (hx : x < 18446744073709551616) (hy : y < 18446744073709551616) (hc : c < 18446744073709551616) (ho : o < 18446744073709551616) : hi2 x y c o < 18446744073709551616 := by
  have := word_mul hx hy
  unfold hi2
  generalize x * y = P at *
  omega
theorem lo2_lt {x y c o : Nat} : lo2 x y c o < W := Nat.mod_lt _ (by decide)

/-- What the inner loop holds. -/
structure Inner (a b i k N c : Nat) : Prop where
  val : N + c * W ^ (i + k) = a % W ^ i * b + wd a i * W ^ i * (b % W ^ k)
  lt : N < W ^ (i + 4)
  c_lt : c < 18446744073709551616
theorem Inner.start (a b i : Nat) (hb : b < W ^ 4) : Inner a b i 0 (a % W ^ i * b) 0 := by
  refine ⟨by rw [Nat.pow_zero, Nat.mod_one, Nat.zero_mul, Nat.mul_zero], ?_, by decide⟩
  rw [Nat.pow_add]
  have h1 := Nat.mod_lt a (Wpos i)
  exact Nat.lt_of_le_of_lt (Nat.mul_le_mul (Nat.le_of_lt h1) (Nat.le_refl _)) (Nat.mul_lt_mul_of_pos_left hb (Wpos i))
theorem Inner.next {a b i k N c : Nat} (h : Inner a b i k N c) (hk : k < 4) :
    Inner a b i (k + 1) (setw N (i + k) (lo2 (wd a i) (wd b k) c (wd N (i + k)))) (hi2 (wd a i) (wd b k) c (wd N (i + k))) :=
  ⟨mul_round h.val rfl, setw_lt (by omega) lo2_lt h.lt, hi2_lt (wd_lt _ _) (wd_lt _ _) h.c_lt (wd_lt _ _)⟩
theorem Inner.stop {a b i N c : Nat} (h : Inner a b i 4 N c) (hb : b < W ^ 4) : setw N (i + 4) c = a % W ^ (i + 1) * b := by
  have h1 := setw_val N (i + 4) c
  have h2 : wd N (i + 4) = 0 := by unfold wd; rw [Nat.div_eq_of_lt h.lt]; rfl
  rw [h2, Nat.zero_mul, Nat.add_zero] at h1
  rw [h1, h.val, Nat.mod_eq_of_lt hb, mod_pow_succ, Nat.add_mul]

/-- What the folding loop holds. -/
structure Folds (N k O c : Nat) : Prop where
  val : O + c * W ^ k = N % W ^ k + 38 * (N / W ^ 4 % W ^ k)
  lt : O < W ^ k
  c_lt : c < 18446744073709551616
theorem Folds.start (N : Nat) : Folds N 0 0 0 := ⟨by simp [Nat.mod_one], by decide, by decide⟩
theorem wd_shift (N k : Nat) : wd (N / W ^ 4) k = wd N (4 + k) := by
  unfold wd; rw [Nat.div_div_eq_div_mul, ← Nat.pow_add]
theorem Folds.next {N k O c : Nat} (h : Folds N k O c) :
    Folds N (k + 1) (setw O k (lo2 (wd N (4 + k)) 38 c (wd N k))) (hi2 (wd N (4 + k)) 38 c (wd N k)) := by
  refine ⟨?_, setw_lt (by omega) lo2_lt (Nat.lt_of_lt_of_le h.lt (Nat.pow_le_pow_right (by decide) (by omega))), hi2_lt (wd_lt _ _) (by decide) h.c_lt (wd_lt _ _)⟩
  have h1 := setw_val O k (lo2 (wd N (4 + k)) 38 c (wd N k))
  have h2 : wd O k = 0 := by unfold wd; rw [Nat.div_eq_of_lt h.lt]; rfl
  rw [h2, Nat.zero_mul, Nat.add_zero] at h1
  rw [h1, mod_pow_succ, mod_pow_succ (N / W ^ 4), wd_shift, Nat.mul_add]
  have h3 := h.val
  have h4 := Nat.div_add_mod (wd N (4 + k) * 38 + c + wd N k) W
  have h5 : hi2 (wd N (4 + k)) 38 c (wd N k) * W ^ (k + 1) = W * ((wd N (4 + k) * 38 + c + wd N k) / W) * W ^ k := by
    unfold hi2
    rw [show (18446744073709551616 : Nat) = W from rfl, Nat.pow_succ, Nat.mul_comm (W ^ k) W, ← Nat.mul_assoc, Nat.mul_comm _ W]
  rw [h5]
  have h6 : lo2 (wd N (4 + k)) 38 c (wd N k) = (wd N (4 + k) * 38 + c + wd N k) % W := rfl
  rw [h6]
  generalize (wd N (4 + k) * 38 + c + wd N k) / W = q at *
  generalize (wd N (4 + k) * 38 + c + wd N k) % W = r at *
  have h7 : (W * q + r) * W ^ k = (wd N (4 + k) * 38 + c + wd N k) * W ^ k := by rw [h4]
  rw [Nat.add_mul, Nat.add_mul, Nat.add_mul] at h7
  have h8 : wd N (4 + k) * 38 * W ^ k = 38 * (wd N (4 + k) * W ^ k) := by rw [Nat.mul_comm (wd N (4 + k)), Nat.mul_assoc]
  rw [h8] at h7
  generalize W * q * W ^ k = g1 at *
  generalize r * W ^ k = g2 at *
  generalize wd N (4 + k) * W ^ k = g3 at *
  generalize c * W ^ k = g4 at *
  generalize wd N k * W ^ k = g5 at *
  generalize N % W ^ k = g6 at *
  generalize N / W ^ 4 % W ^ k = g7 at *
  omega

/-- What the last loop holds: the value goes down. -/
structure Last (n v O c : Nat) : Prop where
  val : O + c * W ^ 4 = v
  same : v % p = n % p
  lt : O < W ^ 4
  c_le : c ≤ 38
theorem W4_p (x y : Nat) : (x + y * W ^ 4) % p = (x + 38 * y) % p := by
  have : W ^ 4 = 2 * p + 38 := by rw [W4]; rfl
  rw [this, show x + y * (2 * p + 38) = (x + 38 * y) + p * (2 * y) by rw [Nat.mul_add, Nat.mul_comm y 38, ← Nat.mul_assoc y 2 p, Nat.mul_comm (y * 2) p, Nat.mul_comm y 2]; omega, Nat.add_mul_mod_self_left]
theorem Last.start {N O c : Nat} (h : Folds N 4 O c) (hN : N < W ^ 4 * W ^ 4) : Last N (O + c * W ^ 4) O c := by
  have h0 := Nat.div_add_mod N (W ^ 4)
  have hq : N / W ^ 4 < W ^ 4 := Nat.div_lt_of_lt_mul hN
  have hv := h.val
  rw [Nat.mod_eq_of_lt hq] at hv
  refine ⟨rfl, ?_, h.lt, ?_⟩
  · rw [hv]
    have := W4_p (N % W ^ 4) (N / W ^ 4)
    rw [← this, Nat.mul_comm (N / W ^ 4), Nat.add_comm, h0]
  · have h1 := Nat.mod_lt N (Wpos 4)
    rw [W4] at *
    omega
theorem Last.next {n v O c : Nat} (h : Last n v O c) (hc : 0 < c) : O + c * 38 < v ∧ Last n (O + c * 38) ((O + c * 38) % W ^ 4) (car O (c * 38) 4) := by
  have h1 := h.val; have h2 := h.lt; have h3 := h.c_le
  have h4 : car O (c * 38) 4 = (O + c * 38) / W ^ 4 := by rw [car_eq, Nat.mod_eq_of_lt h2]
  have hs : v % p = (O + c * 38) % p := by rw [← h1, W4_p, Nat.mul_comm 38]
  refine ⟨?_, ?_, ?_, Nat.mod_lt _ (Wpos 4), ?_⟩
  · rw [W4] at h1; omega
  · rw [h4, Nat.mul_comm _ (W ^ 4), Nat.add_comm]; exact Nat.div_add_mod _ _
  · rw [← hs]; exact h.same
  · rw [h4]
    rw [W4] at *
    omega
theorem Last.stop {n v O : Nat} (h : Last n v O 0) : O % p = n % p := by
  have := h.val
  rw [Nat.zero_mul, Nat.add_zero] at this
  rw [this, h.same]
theorem mul_wrap38 {n v O c : Nat} (h : Last n v O c) : IntKind.u64.wrap ((c : Int) * 38) = ((c * 38 : Nat) : Int) := by
  have := h.c_le
  rw [IntWalk.u64_in _ (by omega)]; rfl
end Go.Num
