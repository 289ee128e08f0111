/- Numbers of 256 bits as the program holds them: four words of 64 bits, the lowest first; and what cells hold. Plain lemmas, no conditions. -/
import Derived.Test.YtggbjpebdmlahaaMono
import Derived.WalkKit
namespace Go.Num
open Go Go.RowKit

def W : Nat := 18446744073709551616
/-- Word j of a number. -/
def wd (n j : Nat) : Nat := n / W ^ j % W
theorem wd_lt (n j : Nat) : wd n j < 18446744073709551616 := Nat.mod_lt _ (by decide)
theorem wd_le (n j : Nat) : wd n j ≤ 18446744073709551615 := by have := wd_lt n j; omega
/-- The cells of a number. -/
def cells4 (n : Nat) : Array Value := #[.int .u64 (wd n 0), .int .u64 (wd n 1), .int .u64 (wd n 2), .int .u64 (wd n 3)]
/-- A number as a value. -/
abbrev num (n : Nat) : Value := .agg #[.int .u64 (wd n 0), .int .u64 (wd n 1), .int .u64 (wd n 2), .int .u64 (wd n 3)]

/-- A number whose words are known. -/
theorem num_of {n a b c d : Nat} (h0 : wd n 0 = a) (h1 : wd n 1 = b) (h2 : wd n 2 = c) (h3 : wd n 3 = d) : num n = .agg #[.int .u64 a, .int .u64 b, .int .u64 c, .int .u64 d] := by
  rw [num, h0, h1, h2, h3]
theorem lt4 {k : Nat} (h : k < 4) : k = 0 ∨ k = 1 ∨ k = 2 ∨ k = 3 := by omega

theorem cell_of {w : World} {b : Nat} {c : Array Value} {t : TypeId} {z : Nat × Nat} (h : w.heap[b]? = some (.cells c t z)) (o : Nat) : w.cell? ⟨b, o, none⟩ = c[o]? := by
  simp [World.cell?, h]
theorem frozen_of {w : World} {b : Nat} {c : Array Value} {t : TypeId} (h : w.heap[b]? = some (.cells c t)) (o : Nat) : w.frozen? ⟨b, o, none⟩ = false := by
  simp [World.frozen?, h]
theorem cell4 {w : World} {b n : Nat} {t : TypeId} {z : Nat × Nat} (h : w.heap[b]? = some (.cells (cells4 n) t z)) (o : Nat) (ho : o < 4) : w.cell? ⟨b, o, none⟩ = some (.int .u64 (wd n o)) := by
  rw [cell_of h]
  have : o = 0 ∨ o = 1 ∨ o = 2 ∨ o = 3 := by omega
  rcases this with rfl | rfl | rfl | rfl <;> rfl
theorem keep {w w' : World} {b : Nat} {x : Obj} (hB : Below w.heap.size w w') (h : w.heap[b]? = some x) : w'.heap[b]? = some x := by
  rw [hB.block b (Go.Mono.lt_of_some h)]; exact h
theorem hp_new {w : World} {b : Nat} (o : Obj) (h : b = w.heap.size) : (w.alloc o).heap[b]? = some o := by subst h; exact Array.getElem?_push_size
theorem hp_old {w : World} {b : Nat} {x : Obj} (o : Obj) (h : w.heap[b]? = some x) : (w.alloc o).heap[b]? = some x := by
  rw [Below.heap_alloc _ _ _ (Go.Mono.lt_of_some h)]; exact h
theorem hp_drew {w : World} {b : Nat} {x : Obj} (h : w.heap[b]? = some x) : w.drew.heap[b]? = some x := h
theorem hp_set {w : World} {b o : Nat} {c : Array Value} {t : TypeId} {z : Nat × Nat} {v : Value} (h : w.heap[b]? = some (.cells c t z)) : (w.setCell ⟨b, o, none⟩ v).heap[b]? = some (.cells (c.setIfInBounds o v) t z) := by
  simp only [World.setCell, Array.getElem?_modify, if_true, h]; rfl
theorem hp_set_ne {w : World} {b b' o : Nat} {x : Obj} {v : Value} (h : w.heap[b]? = some x) (hne : b ≠ b') : (w.setCell ⟨b', o, none⟩ v).heap[b]? = some x := by
  rw [Below.heap_setCell _ _ _ _ hne]; exact h

theorem setCell_self {w : World} {b o : Nat} {v : Value} (h : w.cell? ⟨b, o, none⟩ = some v) : w.setCell ⟨b, o, none⟩ v = w := by
  unfold World.cell? at h
  obtain ⟨heap, tape, drawn, os, output⟩ := w
  simp only [World.setCell, World.mk.injEq, and_self, and_true] at h ⊢
  apply Array.ext_getElem?
  intro i
  rw [Array.getElem?_modify]
  split
  · rename_i hi
    subst hi
    cases hb : heap[b]? with
    | none => rfl
    | some x =>
      rw [hb] at h
      cases x <;> simp at h ⊢
      rename_i c e z
      apply Array.ext_getElem?
      intro j
      rw [Array.getElem?_setIfInBounds]
      split
      · rename_i hj; subst hj; rw [h]; split
        · rfl
        · rename_i hn; rw [Array.getElem?_eq_none (by omega)] at h; cases h
      · rfl
  · rfl

/-- The first k words of n, then of z. -/
def mix4 (n z k : Nat) : Array Value := #[.int .u64 (if 0 < k then wd n 0 else wd z 0), .int .u64 (if 1 < k then wd n 1 else wd z 1), .int .u64 (if 2 < k then wd n 2 else wd z 2), .int .u64 (if 3 < k then wd n 3 else wd z 3)]
theorem mix4_zero (n z : Nat) : mix4 n z 0 = cells4 z := rfl
theorem mix4_four (n z : Nat) : mix4 n z 4 = cells4 n := rfl
theorem mix4_set (n z k : Nat) (hk : k < 4) : (mix4 n z k).setIfInBounds k (.int .u64 (wd n k)) = mix4 n z (k + 1) := by
  have : k = 0 ∨ k = 1 ∨ k = 2 ∨ k = 3 := by omega
  rcases this with rfl | rfl | rfl | rfl <;> rfl
theorem mix4_cell (n z k o : Nat) (ho : o < 4) : (mix4 n z k)[o]? = some (.int .u64 (if o < k then wd n o else wd z o)) := by
  have : o = 0 ∨ o = 1 ∨ o = 2 ∨ o = 3 := by omega
  rcases this with rfl | rfl | rfl | rfl <;> rfl
theorem wd_zero (j : Nat) : wd 0 j = 0 := by simp [wd]
theorem cells4_zero : cells4 0 = #[.int .u64 0, .int .u64 0, .int .u64 0, .int .u64 0] := by simp [cells4, wd_zero]

/-! ### A number stored whole -/
def st4 (w : World) (b n : Nat) : World := (((w.setCell ⟨b, 0, none⟩ (.int .u64 (wd n 0))).setCell ⟨b, 1, none⟩ (.int .u64 (wd n 1))).setCell ⟨b, 2, none⟩ (.int .u64 (wd n 2))).setCell ⟨b, 3, none⟩ (.int .u64 (wd n 3))
theorem st4_eq (w : World) (b n : Nat) : (((w.setCell ⟨b, 0, none⟩ (.int .u64 (wd n 0))).setCell ⟨b, 1, none⟩ (.int .u64 (wd n 1))).setCell ⟨b, 2, none⟩ (.int .u64 (wd n 2))).setCell ⟨b, 3, none⟩ (.int .u64 (wd n 3)) = st4 w b n := rfl
theorem st4_at {w : World} {b n : Nat} {x0 x1 x2 x3 : Value} {t : TypeId} (h : w.heap[b]? = some (.cells #[x0, x1, x2, x3] t)) : (st4 w b n).heap[b]? = some (.cells (cells4 n) t) :=
  hp_set (hp_set (hp_set (hp_set h)))
theorem st4_other {w : World} {b n b' : Nat} {x : Obj} (h : w.heap[b']? = some x) (hne : b' ≠ b) : (st4 w b n).heap[b']? = some x :=
  hp_set_ne (hp_set_ne (hp_set_ne (hp_set_ne h hne) hne) hne) hne
theorem st4_size (w : World) (b n : Nat) : (st4 w b n).heap.size = w.heap.size := by simp [st4, World.setCell]
theorem st4_below {w w' : World} {B b n : Nat} (h : Below B w w') (hb : B ≤ b) : Below B w (st4 w' b n) :=
  (((h.setCell (p := ⟨b, 0, none⟩) hb _).setCell (p := ⟨b, 1, none⟩) hb _).setCell (p := ⟨b, 2, none⟩) hb _).setCell (p := ⟨b, 3, none⟩) hb _

/-! ### Borrow and carry -/
theorem mod_pow_succ (n k : Nat) : n % W ^ (k + 1) = n % W ^ k + wd n k * W ^ k := by
  unfold wd
  rw [Nat.pow_succ, Nat.mod_mul]
  rw [Nat.mul_comm (W ^ k)]
/-- The borrow behind k words. -/
def bor (a b k : Nat) : Nat := if a % W ^ k < b % W ^ k then 1 else 0
theorem bor_le (a b k : Nat) : bor a b k ≤ 1 := by unfold bor; split <;> omega
theorem bor_zero (a b : Nat) : bor a b 0 = 0 := by simp [bor, Nat.mod_one]
theorem lex_lt {x y a b P : Nat} (hx : x < P) (hy : y < P) : x + a * P < y + b * P ↔ (a < b ∨ (a = b ∧ x < y)) := by
  constructor
  · intro h
    rcases Nat.lt_trichotomy a b with h1 | h1 | h1
    · exact .inl h1
    · subst h1; exact .inr ⟨rfl, by omega⟩
    · have : (b + 1) * P ≤ a * P := Nat.mul_le_mul_right _ h1
      rw [Nat.add_mul] at this; omega
  · rintro (h | ⟨rfl, h⟩)
    · have : (a + 1) * P ≤ b * P := Nat.mul_le_mul_right _ h
      rw [Nat.add_mul] at this; omega
    · omega
theorem bor_succ (a b k : Nat) : (if wd a k < wd b k + bor a b k then 1 else 0) = bor a b (k + 1) := by
  unfold bor
  rw [mod_pow_succ a k, mod_pow_succ b k]
  have hP : 0 < W ^ k := Nat.pow_pos (by decide)
  have h1 := lex_lt (x := a % W ^ k) (y := b % W ^ k) (a := wd a k) (b := wd b k) (Nat.mod_lt a hP) (Nat.mod_lt b hP)
  by_cases h : a % W ^ k < b % W ^ k
  · rw [if_pos h]
    by_cases h2 : wd a k < wd b k + 1
    · rw [if_pos h2, if_pos (h1.2 (by omega))]
    · rw [if_neg h2, if_neg (fun h3 => by have := h1.1 h3; omega)]
  · rw [if_neg h]
    by_cases h2 : wd a k < wd b k + 0
    · rw [if_pos h2, if_pos (h1.2 (by omega))]
    · rw [if_neg h2, if_neg (fun h3 => by have := h1.1 h3; omega)]

/-- The difference modulo 2^256. -/
def sub256 (a b : Nat) : Nat := (a + W ^ 4 - b % W ^ 4) % W ^ 4
theorem pow_dvd4 {k : Nat} (hk : k ≤ 4) : W ^ k ∣ W ^ 4 := Nat.pow_dvd_pow W hk
theorem sub256_mod (a b k : Nat) (hk : k ≤ 4) : sub256 a b % W ^ k + b % W ^ k = a % W ^ k + bor a b k * W ^ k := by
  have hP : 0 < W ^ k := Nat.pow_pos (by decide)
  have h1 : (sub256 a b + b) % W ^ k = a % W ^ k := by
    unfold sub256
    rw [Nat.add_mod, Nat.mod_mod_of_dvd _ (pow_dvd4 hk), ← Nat.mod_mod_of_dvd b (pow_dvd4 hk), ← Nat.add_mod]
    have hb : b % W ^ 4 < W ^ 4 := Nat.mod_lt _ (by decide)
    rw [show a + W ^ 4 - b % W ^ 4 + b % W ^ 4 = a + W ^ 4 by omega, Nat.add_mod, Nat.mod_eq_zero_of_dvd (pow_dvd4 hk), Nat.add_zero, Nat.mod_mod]
  have h2 := Nat.mod_lt (sub256 a b) hP
  have h3 := Nat.mod_lt a hP
  have h4 := Nat.mod_lt b hP
  rw [Nat.add_mod] at h1
  unfold bor
  generalize sub256 a b % W ^ k = d at *
  generalize a % W ^ k = x at *
  generalize b % W ^ k = y at *
  generalize W ^ k = P at *
  rcases Nat.lt_or_ge (d + y) P with h | h
  · rw [Nat.mod_eq_of_lt h] at h1; split <;> omega
  · rw [Nat.mod_eq_sub_mod h, Nat.mod_eq_of_lt (by omega)] at h1; split <;> omega
theorem sub256_step (a b k : Nat) (hk : k < 4) : wd (sub256 a b) k + wd b k + bor a b k = wd a k + bor a b (k + 1) * W := by
  have hP : 0 < W ^ k := Nat.pow_pos (by decide)
  have h1 := sub256_mod a b k (by omega)
  have h2 := sub256_mod a b (k + 1) (by omega)
  rw [mod_pow_succ (sub256 a b), mod_pow_succ a, mod_pow_succ b, Nat.pow_succ] at h2
  have e : bor a b (k + 1) * (W ^ k * W) = bor a b (k + 1) * W * W ^ k := by rw [Nat.mul_comm (W ^ k) W, Nat.mul_assoc]
  rw [e] at h2
  have h3 : (wd (sub256 a b) k + wd b k + bor a b k) * W ^ k = (wd a k + bor a b (k + 1) * W) * W ^ k := by
    rw [Nat.add_mul, Nat.add_mul, Nat.add_mul]; omega
  exact Nat.eq_of_mul_eq_mul_right hP h3
theorem sub256_word (a b k : Nat) (hk : k < 4) : (wd a k + 18446744073709551616 - wd b k - bor a b k) % 18446744073709551616 = wd (sub256 a b) k := by
  have h1 := sub256_step a b k hk
  have h2 := wd_lt (sub256 a b) k
  have h3 := wd_lt a k
  have h4 := wd_lt b k
  have h5 := bor_le a b k
  have h6 := bor_le a b (k + 1)
  have h7 : W = 18446744073709551616 := rfl
  rw [h7] at h1
  omega

/-! ### A number and a word -/
/-- The carry behind k words of a + n (n a word). -/
def car (a n k : Nat) : Nat := if k = 0 then n else (a % W ^ k + n) / W ^ k
theorem car_eq (a n k : Nat) : car a n k = (a % W ^ k + n) / W ^ k := by
  unfold car
  split
  · rename_i h; subst h; simp [Nat.mod_one]
  · rfl
theorem car_succ (a n k : Nat) : (wd a k + car a n k) / 18446744073709551616 = car a n (k + 1) := by
  have hP : 0 < W ^ k := Nat.pow_pos (by decide)
  rw [car_eq, car_eq, mod_pow_succ, Nat.pow_succ, ← Nat.div_div_eq_div_mul, show (18446744073709551616 : Nat) = W from rfl]
  congr 1
  rw [show a % W ^ k + wd a k * W ^ k + n = (a % W ^ k + n) + wd a k * W ^ k by omega, Nat.add_mul_div_right _ _ hP]
  omega
theorem car_word (a n k : Nat) (hk : k < 4) : (wd a k + car a n k) % 18446744073709551616 = wd ((a + n) % W ^ 4) k := by
  have hP : 0 < W ^ k := Nat.pow_pos (by decide)
  have h1 : wd ((a + n) % W ^ 4) k = wd (a + n) k := by
    unfold wd
    rw [show (4 : Nat) = k + (4 - k) by omega, Nat.pow_add, Nat.mod_mul_right_div_self, Nat.mod_mod_of_dvd]
    exact Nat.dvd_trans (by rw [Nat.pow_one]; exact Nat.dvd_refl _) (Nat.pow_dvd_pow W (show 1 ≤ 4 - k by omega))
  rw [h1]
  unfold wd car
  rw [show (18446744073709551616 : Nat) = W from rfl]
  have h2 : (a + n) / W ^ k = a / W ^ k + (a % W ^ k + n) / W ^ k := by
    have := Nat.div_add_mod a (W ^ k)
    conv => lhs; rw [← this]
    rw [Nat.add_assoc, Nat.mul_add_div hP]
  rw [h2]
  split
  · rename_i h; subst h; simp [Nat.mod_one]
  · rw [Nat.mod_add_mod]
end Go.Num
