/- Numbers as words of 32 bits, as the reference holds them: plain lemmas, no conditions. -/
import Derived.Test.YtdhaedjmlddjcaaRefA
import Derived.Test.YtdhaedjmlddjcaaNumOf
import Derived.Test.YtdhaedjmlddjcaaAddMul
namespace Go.Num
open Go Go.RowKit
def V : Nat := 4294967296
/-- Word j of 32 bits. -/
def hd (n j : Nat) : Nat := n / V ^ j % V
theorem hd_lt (n j : Nat) : hd n j < 4294967296 := Nat.mod_lt _ (by decide)
theorem hd_zero (j : Nat) : hd 0 j = 0 := by simp [hd]
theorem mod_powv_succ (n k : Nat) : n % V ^ (k + 1) = n % V ^ k + hd n k * V ^ k := by
  unfold hd
  rw [Nat.pow_succ, Nat.mod_mul]
  rw [Nat.mul_comm (V ^ k)]
theorem Vpos (k : Nat) : 0 < V ^ k := Nat.pow_pos (by decide)
theorem hd_mod (n : Nat) {j m : Nat} (h : j < m) : hd (n % V ^ m) j = hd n j := by
  unfold hd
  rw [show m = j + (m - j) by omega, Nat.pow_add, Nat.mod_mul_right_div_self, Nat.mod_mod_of_dvd]
  exact Nat.dvd_trans (by rw [Nat.pow_one]; exact Nat.dvd_refl _) (Nat.pow_dvd_pow V (show 1 ≤ m - j by omega))

/-! ### A word of a number set anew -/
def seth (n j v : Nat) : Nat := n / V ^ (j + 1) * V ^ (j + 1) + v * V ^ j + n % V ^ j
theorem split_atv (n j : Nat) : n = n / V ^ (j + 1) * V ^ (j + 1) + hd n j * V ^ j + n % V ^ j := by
  have h1 := Nat.div_add_mod n (V ^ (j + 1))
  have h2 := mod_powv_succ n j
  rw [Nat.mul_comm] at h1
  rw [Nat.add_assoc, Nat.add_comm (hd n j * V ^ j), ← h2]
  exact h1.symm
theorem seth_val (n j v : Nat) : seth n j v + hd n j * V ^ j = n + v * V ^ j := by
  have := split_atv n j
  unfold seth
  generalize n / V ^ (j + 1) * V ^ (j + 1) = x at *
  generalize hd n j * V ^ j = y at *
  generalize n % V ^ j = z at *
  generalize v * V ^ j = u at *
  omega
theorem seth_low (n j v : Nat) : seth n j v % V ^ j = n % V ^ j := by
  unfold seth
  rw [Nat.pow_succ, Nat.mul_comm (V ^ j) V, ← Nat.mul_assoc, ← Nat.add_mul, Nat.mul_comm, Nat.mul_add_mod, Nat.mod_mod]
theorem below_nextv (n j v : Nat) (hv : v < V) : v * V ^ j + n % V ^ j < V * V ^ j := by
  have h1 := Nat.mod_lt n (Vpos j)
  have this : (v + 1) * V ^ j ≤ V * V ^ j := Nat.mul_le_mul_right _ hv
  rw [Nat.add_mul, Nat.one_mul] at this
  exact Nat.lt_of_lt_of_le (Nat.add_lt_add_left h1 _) this
theorem seth_high (n j v : Nat) (hv : v < V) : seth n j v / V ^ (j + 1) = n / V ^ (j + 1) := by
  have h2 := below_nextv n j v hv
  rw [Nat.mul_comm V, ← Nat.pow_succ] at h2
  have hP := Vpos (j + 1)
  unfold seth
  generalize V ^ (j + 1) = P at *
  rw [Nat.add_assoc, Nat.add_comm, Nat.add_mul_div_right _ _ hP, Nat.div_eq_of_lt h2, Nat.zero_add]
theorem hd_seth (n j v i : Nat) (hv : v < V) : hd (seth n j v) i = if i = j then v else hd n i := by
  rcases Nat.lt_trichotomy i j with h | h | h
  · rw [if_neg (by omega), ← hd_mod (seth n j v) h, seth_low, hd_mod _ h]
  · subst h
    rw [if_pos rfl]
    unfold hd
    have : seth n i v / V ^ i = n / V ^ (i + 1) * V + v := by
      unfold seth
      rw [Nat.pow_succ, Nat.mul_comm (V ^ i) V, ← Nat.mul_assoc, ← Nat.add_mul, Nat.mul_comm _ (V ^ i), Nat.mul_add_div (Vpos i), Nat.div_eq_of_lt (Nat.mod_lt n (Vpos i)), Nat.add_zero, Nat.mul_comm V]
    rw [this, Nat.mul_comm, Nat.mul_add_mod, Nat.mod_eq_of_lt hv]
  · rw [if_neg (by omega)]
    unfold hd
    rw [show i = (j + 1) + (i - (j + 1)) by omega, Nat.pow_add, ← Nat.div_div_eq_div_mul, ← Nat.div_div_eq_div_mul, seth_high n j v hv]
theorem seth_lt {n j v m : Nat} (hj : j < m) (hv : v < V) (hn : n < V ^ m) : seth n j v < V ^ m := by
  have h1 : seth n j v / V ^ m = 0 := by
    rw [show m = (j + 1) + (m - (j + 1)) by omega, Nat.pow_add, ← Nat.div_div_eq_div_mul, seth_high n j v hv, Nat.div_div_eq_div_mul, ← Nat.pow_add, show (j + 1) + (m - (j + 1)) = m by omega]
    exact Nat.div_eq_of_lt hn
  exact (Nat.div_eq_zero_iff.1 h1).resolve_left (Nat.ne_of_gt (Vpos m))
def half8 (n : Nat) : Array Value := #[.int .u64 (hd n 0), .int .u64 (hd n 1), .int .u64 (hd n 2), .int .u64 (hd n 3), .int .u64 (hd n 4), .int .u64 (hd n 5), .int .u64 (hd n 6), .int .u64 (hd n 7)]
theorem below8 {k : Nat} (h : k < 8) : k = 0 ∨ k = 1 ∨ k = 2 ∨ k = 3 ∨ k = 4 ∨ k = 5 ∨ k = 6 ∨ k = 7 := by omega
theorem half8_set (n j v : Nat) (hj : j < 8) (hv : v < V) : (half8 n).setIfInBounds j (.int .u64 v) = half8 (seth n j v) := by
  have h := fun i => hd_seth n j v i hv
  unfold half8
  rcases below8 hj with rfl | rfl | rfl | rfl | rfl | rfl | rfl | rfl <;> simp [h]
theorem half8_at {w : World} {b n : Nat} {t : TypeId} {z : Nat × Nat} (h : w.heap[b]? = some (.cells (half8 n) t z)) (o : Nat) (ho : o < 8) : w.cell? ⟨b, o, none⟩ = some (.int .u64 (hd n o)) := by
  rw [cell_of h]
  rcases below8 ho with rfl | rfl | rfl | rfl | rfl | rfl | rfl | rfl <;> rfl
theorem half8_zero : half8 0 = #[.int .u64 0, .int .u64 0, .int .u64 0, .int .u64 0, .int .u64 0, .int .u64 0, .int .u64 0, .int .u64 0] := by simp [half8, hd_zero]
def half16 (n : Nat) : Array Value := #[.int .u64 (hd n 0), .int .u64 (hd n 1), .int .u64 (hd n 2), .int .u64 (hd n 3), .int .u64 (hd n 4), .int .u64 (hd n 5), .int .u64 (hd n 6), .int .u64 (hd n 7), .int .u64 (hd n 8), .int .u64 (hd n 9), .int .u64 (hd n 10), .int .u64 (hd n 11), .int .u64 (hd n 12), .int .u64 (hd n 13), .int .u64 (hd n 14), .int .u64 (hd n 15)]
theorem below16 {k : Nat} (h : k < 16) : k = 0 ∨ k = 1 ∨ k = 2 ∨ k = 3 ∨ k = 4 ∨ k = 5 ∨ k = 6 ∨ k = 7 ∨ k = 8 ∨ k = 9 ∨ k = 10 ∨ k = 11 ∨ k = 12 ∨ k = 13 ∨ k = 14 ∨ k = 15 := by omega
theorem half16_set (n j v : Nat) (hj : j < 16) (hv : v < V) : (half16 n).setIfInBounds j (.int .u64 v) = half16 (seth n j v) := by
  have h := fun i => hd_seth n j v i hv
  unfold half16
  rcases below16 hj with rfl | rfl | rfl | rfl | rfl | rfl | rfl | rfl | rfl | rfl | rfl | rfl | rfl | rfl | rfl | rfl <;> simp [h]
theorem half16_at {w : World} {b n : Nat} {t : TypeId} {z : Nat × Nat} (h : w.heap[b]? = some (.cells (half16 n) t z)) (o : Nat) (ho : o < 16) : w.cell? ⟨b, o, none⟩ = some (.int .u64 (hd n o)) := by
  rw [cell_of h]
  rcases below16 ho with rfl | rfl | rfl | rfl | rfl | rfl | rfl | rfl | rfl | rfl | rfl | rfl | rfl | rfl | rfl | rfl <;> rfl
theorem half16_zero : half16 0 = #[.int .u64 0, .int .u64 0, .int .u64 0, .int .u64 0, .int .u64 0, .int .u64 0, .int .u64 0, .int .u64 0, .int .u64 0, .int .u64 0, .int .u64 0, .int .u64 0, .int .u64 0, .int .u64 0, .int .u64 0, .int .u64 0] := by simp [half16, hd_zero]
/-- The inner round. -/
theorem mulv_round {N c T x y d i k : Nat} (hinv : N + c * V ^ (i + k) = T + x * V ^ i * (d % V ^ k)) (hy : hd d k = y) :
    seth N (i + k) ((x * y + c + hd N (i + k)) % V) + (x * y + c + hd N (i + k)) / V * V ^ (i + (k + 1)) = T + x * V ^ i * (d % V ^ (k + 1)) := by
  have h1 := seth_val N (i + k) ((x * y + c + hd N (i + k)) % V)
  have h2 := Nat.div_add_mod (x * y + c + hd N (i + k)) V
  have h3 : (x * y + c + hd N (i + k)) / V * V ^ (i + (k + 1)) = V * ((x * y + c + hd N (i + k)) / V) * V ^ (i + k) := by
    rw [← Nat.add_assoc, Nat.pow_succ, Nat.mul_comm (V ^ (i + k)) V, ← Nat.mul_assoc, Nat.mul_comm ((x * y + c + hd N (i + k)) / V) V]
  have h4 : x * V ^ i * (d % V ^ (k + 1)) = x * V ^ i * (d % V ^ k) + x * y * V ^ (i + k) := by
    rw [mod_powv_succ, hy, Nat.mul_add, Nat.pow_add, show x * V ^ i * (y * V ^ k) = x * y * (V ^ i * V ^ k) by rw [Nat.mul_assoc, Nat.mul_assoc, Nat.mul_left_comm (V ^ i) y]]
  rw [h3, h4]
  generalize (x * y + c + hd N (i + k)) / V = q at *
  generalize (x * y + c + hd N (i + k)) % V = r at *
  have h5 : (V * q + r) * V ^ (i + k) = (x * y + c + hd N (i + k)) * V ^ (i + k) := by rw [h2]
  rw [Nat.add_mul, Nat.add_mul, Nat.add_mul] at h5
  generalize seth N (i + k) r = s at *
  generalize V * q * V ^ (i + k) = g1 at *
  generalize r * V ^ (i + k) = g2 at *
  generalize x * y * V ^ (i + k) = g3 at *
  generalize c * V ^ (i + k) = g4 at *
  generalize hd N (i + k) * V ^ (i + k) = g5 at *
  generalize x * V ^ i * (d % V ^ k) = g6 at *
  omega


theorem V2 : V ^ 2 = W := by decide
theorem V8 : V ^ 8 = W ^ 4 := by decide +kernel
theorem Vpow (j : Nat) : V ^ (2 * j) = W ^ j := by rw [Nat.pow_mul, V2]
theorem hd_even (n j : Nat) : hd n (2 * j) = wd n j % 4294967296 := by
  unfold hd wd
  rw [Vpow, show V = 4294967296 from rfl, show W = 18446744073709551616 from rfl]
  omega
theorem hd_odd (n j : Nat) : hd n (2 * j + 1) = wd n j / 4294967296 := by
  unfold hd wd
  rw [Nat.pow_succ, Vpow, ← Nat.div_div_eq_div_mul, show V = 4294967296 from rfl, show W = 18446744073709551616 from rfl]
  omega
/-- What the inner loop of r1.Mul holds. -/
structure InnerV (a b i k N c : Nat) : Prop where
  val : N + c * V ^ (i + k) = a % V ^ i * b + hd a i * V ^ i * (b % V ^ k)
  lt : N < V ^ (i + 8)
  c_lt : c < 4294967296
theorem InnerV.start (a b i : Nat) (hb : b < V ^ 8) : InnerV a b i 0 (a % V ^ i * b) 0 := by
  refine ⟨by rw [Nat.pow_zero, Nat.mod_one, Nat.zero_mul, Nat.mul_zero], ?_, by decide⟩
  rw [Nat.pow_add]
  have h1 := Nat.mod_lt a (Vpos i)
  exact Nat.lt_of_le_of_lt (Nat.mul_le_mul (Nat.le_of_lt h1) (Nat.le_refl _)) (Nat.mul_lt_mul_of_pos_left hb (Vpos i))
theorem hmul {x y : Nat} (hx : x < 4294967296) (hy : y < 4294967296) : x * y ≤ 18446744065119617025 := by
  have := Nat.mul_le_mul (show x ≤ 4294967295 by omega) (show y ≤ 4294967295 by omega)
  simpa using this
/-- The number behind an inner step. -/
def stp (x y c o : Nat) : Nat := x * y + c + o
theorem stp_lt {x y c o : Nat} (hx : x < 4294967296) (hy : y < 4294967296) (hc : c < 4294967296) (ho : o < 4294967296) : stp x y c o < 18446744073709551616 := by
  have := hmul hx hy
  unfold stp
  generalize x * y = P at *
  omega
theorem InnerV.next {a b i k N c : Nat} (h : InnerV a b i k N c) (hk : k < 8) :
    InnerV a b i (k + 1) (seth N (i + k) (stp (hd a i) (hd b k) c (hd N (i + k)) % 4294967296)) (stp (hd a i) (hd b k) c (hd N (i + k)) / 4294967296) := by
  have hl := stp_lt (hd_lt a i) (hd_lt b k) h.c_lt (hd_lt N (i + k))
  exact ⟨mulv_round h.val rfl, seth_lt (by omega) (Nat.mod_lt _ (by decide)) h.lt, by omega⟩
theorem InnerV.stop {a b i N c : Nat} (h : InnerV a b i 8 N c) (hb : b < V ^ 8) : seth N (i + 8) c = a % V ^ (i + 1) * b := by
  have h1 := seth_val N (i + 8) c
  have h2 : hd N (i + 8) = 0 := by unfold hd; rw [Nat.div_eq_of_lt h.lt]; rfl
  rw [h2, Nat.zero_mul, Nat.add_zero] at h1
  rw [h1, h.val, Nat.mod_eq_of_lt hb, mod_powv_succ, Nat.add_mul]

/-- What the first loop of r6.fold holds. -/
structure FoldsV (N k O c : Nat) : Prop where
  val : O + c * V ^ k = N % V ^ k + 38 * (N / V ^ 8 % V ^ k)
  lt : O < V ^ k
  c_le : c ≤ 39
theorem FoldsV.start (N : Nat) : FoldsV N 0 0 0 := ⟨by simp [Nat.mod_one], by decide, by decide⟩
theorem hd_shift (N k : Nat) : hd (N / V ^ 8) k = hd N (8 + k) := by
  unfold hd; rw [Nat.div_div_eq_div_mul, ← Nat.pow_add]
theorem FoldsV.next {N k O c : Nat} (h : FoldsV N k O c) :
    FoldsV N (k + 1) (seth O k ((hd N (8 + k) * 38 + c + hd N k) % 4294967296)) ((hd N (8 + k) * 38 + c + hd N k) / 4294967296) := by
  have b1 := hd_lt N (8 + k); have b2 := hd_lt N k; have b3 := h.c_le
  refine ⟨?_, seth_lt (by omega) (Nat.mod_lt _ (by decide)) (Nat.lt_of_lt_of_le h.lt (Nat.pow_le_pow_right (by decide) (by omega))), by omega⟩
  have h1 := seth_val O k ((hd N (8 + k) * 38 + c + hd N k) % 4294967296)
  have h2 : hd O k = 0 := by unfold hd; rw [Nat.div_eq_of_lt h.lt]; rfl
  rw [h2, Nat.zero_mul, Nat.add_zero] at h1
  rw [h1, mod_powv_succ, mod_powv_succ (N / V ^ 8), hd_shift, Nat.mul_add]
  have h3 := h.val
  have h4 := Nat.div_add_mod (hd N (8 + k) * 38 + c + hd N k) 4294967296
  have h5 : (hd N (8 + k) * 38 + c + hd N k) / 4294967296 * V ^ (k + 1) = 4294967296 * ((hd N (8 + k) * 38 + c + hd N k) / 4294967296) * V ^ k := by
    rw [Nat.pow_succ, Nat.mul_comm (V ^ k) V, ← Nat.mul_assoc, Nat.mul_comm _ V]; rfl
  rw [h5]
  clear h5 b1 b2 b3 h1 h2
  generalize (hd N (8 + k) * 38 + c + hd N k) / 4294967296 = q at *
  generalize (hd N (8 + k) * 38 + c + hd N k) % 4294967296 = r at *
  have h7 : (4294967296 * q + r) * V ^ k = (hd N (8 + k) * 38 + c + hd N k) * V ^ k := by rw [h4]
  rw [Nat.add_mul, Nat.add_mul, Nat.add_mul] at h7
  have h8 : hd N (8 + k) * 38 * V ^ k = 38 * (hd N (8 + k) * V ^ k) := by rw [Nat.mul_comm (hd N (8 + k)), Nat.mul_assoc]
  rw [h8] at h7
  generalize 4294967296 * q * V ^ k = g1 at *
  generalize r * V ^ k = g2 at *
  generalize hd N (8 + k) * V ^ k = g3 at *
  generalize c * V ^ k = g4 at *
  generalize hd N k * V ^ k = g5 at *
  generalize N % V ^ k = g6 at *
  generalize N / V ^ 8 % V ^ k = g7 at *
  omega
/-- What the second loop of r6.fold holds: the value goes down. -/
structure LastV (n v O c : Nat) : Prop where
  val : O + c * V ^ 8 = v
  same : v % p = n % p
  lt : O < V ^ 8
  c_le : c ≤ 39
theorem LastV.start {N O c : Nat} (h : FoldsV N 8 O c) (hN : N < W ^ 4 * W ^ 4) : LastV N (O + c * V ^ 8) O c := by
  have h0 := Nat.div_add_mod N (W ^ 4)
  have hq : N / W ^ 4 < W ^ 4 := Nat.div_lt_of_lt_mul hN
  have hv := h.val
  rw [V8, Nat.mod_eq_of_lt hq] at hv
  refine ⟨rfl, ?_, h.lt, h.c_le⟩
  rw [V8, hv]
  have := W4_p (N % W ^ 4) (N / W ^ 4)
  rw [← this, Nat.mul_comm (N / W ^ 4), Nat.add_comm, h0]
/-- What the innermost loop holds: T is the value that it spreads. -/
structure SpreadV (T i O m : Nat) : Prop where
  val : O + m * V ^ i = T
  lt : O < V ^ 8
  m_lt : m < 4294967296
  m_1 : 0 < i → m ≤ 1
theorem SpreadV.next {T i O m : Nat} (h : SpreadV T i O m) (hi : i < 8) : SpreadV T (i + 1) (seth O i ((m + hd O i) % 4294967296)) ((m + hd O i) / 4294967296) := by
  have b1 := hd_lt O i; have b2 := h.m_lt
  refine ⟨?_, seth_lt hi (Nat.mod_lt _ (by decide)) h.lt, by omega, fun _ => by omega⟩
  have h1 := seth_val O i ((m + hd O i) % 4294967296)
  have h3 := h.val
  have h4 := Nat.div_add_mod (m + hd O i) 4294967296
  have h5 : (m + hd O i) / 4294967296 * V ^ (i + 1) = 4294967296 * ((m + hd O i) / 4294967296) * V ^ i := by
    rw [Nat.pow_succ, Nat.mul_comm (V ^ i) V, ← Nat.mul_assoc, Nat.mul_comm _ V]; rfl
  rw [h5]
  clear h5 b1 b2
  generalize (m + hd O i) / 4294967296 = q at *
  generalize (m + hd O i) % 4294967296 = r at *
  have h7 : (4294967296 * q + r) * V ^ i = (m + hd O i) * V ^ i := by rw [h4]
  rw [Nat.add_mul, Nat.add_mul] at h7
  generalize 4294967296 * q * V ^ i = g1 at *
  generalize r * V ^ i = g2 at *
  generalize m * V ^ i = g4 at *
  generalize hd O i * V ^ i = g5 at *
  omega
theorem LastV.spread {n v O c : Nat} (h : LastV n v O c) : SpreadV (O + c * 38) 0 O (38 * c) :=
  ⟨by rw [Nat.pow_zero]; omega, h.lt, by have := h.c_le; omega, fun h => absurd h (by omega)⟩
theorem LastV.next {n v O c O' m i : Nat} (h : LastV n v O c) (hc : 0 < c) (hs : SpreadV (O + c * 38) i O' m) (hi : i = 8 ∨ m = 0) (h0 : 0 < i) : O + c * 38 < v ∧ LastV n (O + c * 38) O' m := by
  have h1 := h.val; have h2 := h.lt; have h3 := h.c_le
  have hsm : v % p = (O + c * 38) % p := by rw [← h1, V8, W4_p, Nat.mul_comm 38]
  refine ⟨?_, ?_, ?_, hs.lt, ?_⟩
  · rw [V8, W4] at h1; omega
  · rcases hi with rfl | rfl
    · exact hs.val
    · have := hs.val; rw [Nat.zero_mul] at this ⊢; exact this
  · rw [← hsm]; exact h.same
  · have := hs.m_1 h0; omega
theorem LastV.stop {n v O : Nat} (h : LastV n v O 0) : O % p = n % p := by
  have := h.val
  rw [Nat.zero_mul, Nat.add_zero] at this
  rw [this, h.same]
end Go.Num
