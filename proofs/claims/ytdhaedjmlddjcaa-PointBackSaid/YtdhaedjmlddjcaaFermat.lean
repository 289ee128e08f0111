/- Fermat's little law, and a law by which a number is told prime (Pocklington's). Plain lemmas, no conditions beyond those written. -/
namespace Go.Prm

/-- Prime. -/
def Prm (n : Nat) : Prop := 2 ≤ n ∧ ∀ d, d ∣ n → d = 1 ∨ d = n

theorem Prm.cop {r a : Nat} (h : Prm r) (ha : ¬ r ∣ a) : Nat.Coprime r a := by
  rcases h.2 (Nat.gcd r a) (Nat.gcd_dvd_left r a) with h1 | h1
  · exact h1
  · exact absurd (h1 ▸ Nat.gcd_dvd_right r a) ha

theorem Prm.dvd_mul {r a b : Nat} (h : Prm r) (hab : r ∣ a * b) : r ∣ a ∨ r ∣ b := by
  by_cases ha : r ∣ a
  · exact .inl ha
  · exact .inr (Nat.Coprime.dvd_of_dvd_mul_left (h.cop ha) hab)

/-- Choices. -/
def ch : Nat → Nat → Nat
  | _, 0 => 1
  | 0, _ + 1 => 0
  | n + 1, k + 1 => ch n k + ch n (k + 1)
theorem ch_zero (n : Nat) : ch n 0 = 1 := by cases n <;> rfl
theorem ch_over : ∀ (n k : Nat), n < k → ch n k = 0
  | 0, k + 1, _ => rfl
  | n + 1, k + 1, h => by
    show ch n k + ch n (k + 1) = 0
    rw [ch_over n k (by omega), ch_over n (k + 1) (by omega)]
theorem ch_self : ∀ n, ch n n = 1
  | 0 => rfl
  | n + 1 => by
    show ch n n + ch n (n + 1) = 1
    rw [ch_self n, ch_over n (n + 1) (by omega)]
theorem ch_mul : ∀ (n k : Nat), (n + 1) * ch n k = ch (n + 1) (k + 1) * (k + 1)
  | 0, 0 => rfl
  | 0, k + 1 => by simp [ch]
  | n + 1, 0 => by
    have h := ch_mul n 0
    rw [ch_zero] at h
    show (n + 1 + 1) * ch (n + 1) 0 = (ch (n + 1) 0 + ch (n + 1) 1) * 1
    rw [ch_zero]
    simp only [Nat.zero_add, Nat.mul_one] at h ⊢
    omega
  | n + 1, k + 1 => by
    have h1 := ch_mul n k
    have h2 := ch_mul n (k + 1)
    show (n + 1 + 1) * (ch n k + ch n (k + 1)) = (ch (n + 1) (k + 1) + ch (n + 1) (k + 1 + 1)) * (k + 1 + 1)
    have h3 : ch (n + 1) (k + 1) = ch n k + ch n (k + 1) := rfl
    generalize ch (n + 1) (k + 1 + 1) = z at *
    rw [h3] at h1 ⊢
    clear h3
    generalize ch n k = x at *
    generalize ch n (k + 1) = y at *
    grind

/-- Sums. -/
def sm (f : Nat → Nat) : Nat → Nat
  | 0 => 0
  | n + 1 => sm f n + f n
theorem sm_congr {f g : Nat → Nat} : ∀ n, (∀ i, i < n → f i = g i) → sm f n = sm g n
  | 0, _ => rfl
  | n + 1, h => by simp only [sm]; rw [sm_congr n (fun i hi => h i (by omega)), h n (by omega)]
theorem sm_mul (f : Nat → Nat) (c : Nat) : ∀ n, sm f n * c = sm (fun i => f i * c) n
  | 0 => by simp [sm]
  | n + 1 => by simp only [sm]; rw [Nat.add_mul, sm_mul f c n]
theorem sm_add (f g : Nat → Nat) : ∀ n, sm f n + sm g n = sm (fun i => f i + g i) n
  | 0 => rfl
  | n + 1 => by simp only [sm]; have := sm_add f g n; omega
theorem sm_shift (f : Nat → Nat) : ∀ n, sm f (n + 1) = f 0 + sm (fun i => f (i + 1)) n
  | 0 => by simp [sm]
  | n + 1 => by
    have h := sm_shift f n
    simp only [sm] at h ⊢
    omega
theorem sm_dvd {f : Nat → Nat} {r : Nat} : ∀ n, (∀ i, i < n → r ∣ f i) → r ∣ sm f n
  | 0, _ => Nat.dvd_zero r
  | n + 1, h => Nat.dvd_add (sm_dvd n (fun i hi => h i (by omega))) (h n (by omega))

theorem binom (x : Nat) : ∀ n, (x + 1) ^ n = sm (fun k => ch n k * x ^ k) (n + 1)
  | 0 => by simp [sm, ch]
  | n + 1 => by
    rw [Nat.pow_succ, binom x n, sm_mul, sm_shift (fun k => ch (n + 1) k * x ^ k) (n + 1)]
    have e1 : sm (fun i => ch n i * x ^ i * (x + 1)) (n + 1) = sm (fun i => ch n i * x ^ (i + 1)) (n + 1) + sm (fun i => ch n i * x ^ i) (n + 1) := by
      rw [sm_add]
      apply sm_congr
      intro i _
      rw [Nat.mul_add, Nat.pow_succ, Nat.mul_assoc, Nat.mul_one]
    have e2 : sm (fun i => ch (n + 1) (i + 1) * x ^ (i + 1)) (n + 1) = sm (fun i => ch n i * x ^ (i + 1)) (n + 1) + sm (fun i => ch n (i + 1) * x ^ (i + 1)) (n + 1) := by
      rw [sm_add]
      apply sm_congr
      intro i _
      show (ch n i + ch n (i + 1)) * x ^ (i + 1) = _
      rw [Nat.add_mul]
    have e3 : sm (fun i => ch n i * x ^ i) (n + 1) = ch n 0 * x ^ 0 + sm (fun i => ch n (i + 1) * x ^ (i + 1)) n := sm_shift _ n
    have e4 : sm (fun i => ch n (i + 1) * x ^ (i + 1)) (n + 1) = sm (fun i => ch n (i + 1) * x ^ (i + 1)) n := by
      simp only [sm]
      rw [ch_over n (n + 1) (by omega)]; omega
    rw [e1, e2, e3, e4, ch_zero, ch_zero]
    omega

theorem Prm.dvd_ch {r : Nat} (h : Prm r) {k : Nat} (h0 : 0 < k) (hk : k < r) : r ∣ ch r k := by
  obtain ⟨n, rfl⟩ : ∃ n, r = n + 1 := ⟨r - 1, by omega⟩
  obtain ⟨j, rfl⟩ : ∃ j, k = j + 1 := ⟨k - 1, by omega⟩
  have h1 := ch_mul n j
  rcases h.dvd_mul (Nat.dvd_of_mod_eq_zero (by rw [← h1]; exact Nat.mul_mod_right _ _) : n + 1 ∣ ch (n + 1) (j + 1) * (j + 1)) with h2 | h2
  · exact h2
  · have := Nat.le_of_dvd (by omega) h2; omega

theorem Prm.fresh {r : Nat} (h : Prm r) (x : Nat) : (x + 1) ^ r % r = (x ^ r + 1) % r := by
  obtain ⟨n, rfl⟩ : ∃ n, r = n + 1 := ⟨r - 1, by have := h.1; omega⟩
  rw [binom, show sm (fun k => ch (n + 1) k * x ^ k) (n + 1 + 1) = sm (fun k => ch (n + 1) k * x ^ k) (n + 1) + ch (n + 1) (n + 1) * x ^ (n + 1) from rfl, sm_shift, ch_self, ch_zero]
  have hd : n + 1 ∣ sm (fun i => ch (n + 1) (i + 1) * x ^ (i + 1)) n := sm_dvd n fun i hi => Nat.dvd_trans (h.dvd_ch (by omega) (by omega)) (Nat.dvd_mul_right _ _)
  obtain ⟨q, hq⟩ := hd
  rw [hq, show 1 * x ^ 0 + (n + 1) * q + 1 * x ^ (n + 1) = (x ^ (n + 1) + 1) + (n + 1) * q by simp; omega]
  exact Nat.add_mul_mod_self_left _ _ _

theorem Prm.pow_self {r : Nat} (h : Prm r) : ∀ x, x ^ r % r = x % r
  | 0 => by rw [Nat.zero_pow (by have := h.1; omega)]
  | x + 1 => by rw [h.fresh, Nat.add_mod, h.pow_self x, ← Nat.add_mod]

theorem dvd_pow_me (a : Nat) {k : Nat} (h : k ≠ 0) : a ∣ a ^ k := by
  obtain ⟨j, rfl⟩ : ∃ j, k = j + 1 := ⟨k - 1, by omega⟩
  rw [Nat.pow_succ]; exact Nat.dvd_mul_left _ _
theorem dvd_of_mod_eq {r a b : Nat} (h : a % r = b % r) (_ : b ≤ a) : r ∣ a - b := by
  have := Nat.sub_mod_eq_zero_of_mod_eq h
  exact Nat.dvd_of_mod_eq_zero this

/-- Fermat's little law. -/
theorem Prm.fermat {r a : Nat} (h : Prm r) (ha : ¬ r ∣ a) : a ^ (r - 1) % r = 1 := by
  have h2 := h.1
  have hpos : 0 < a := Nat.pos_of_ne_zero (fun e => ha (by rw [e]; exact Nat.dvd_zero r))
  have h1 := h.pow_self a
  rw [show r = r - 1 + 1 by omega, Nat.pow_succ, ← show r = r - 1 + 1 by omega] at h1
  have hp : 0 < a ^ (r - 1) := Nat.pow_pos hpos
  have h3 : r ∣ (a ^ (r - 1) - 1) * a := by
    have := dvd_of_mod_eq h1 (Nat.le_mul_of_pos_left a hp)
    rw [Nat.sub_mul, Nat.one_mul]; exact this
  rcases h.dvd_mul h3 with h4 | h4
  · obtain ⟨q, hq⟩ := h4
    rw [show a ^ (r - 1) = 1 + r * q by omega, Nat.add_mul_mod_self_left]
    exact Nat.mod_eq_of_lt (by omega)
  · exact absurd h4 ha

theorem exists_prm : ∀ (n : Nat), 2 ≤ n → ∃ r, Prm r ∧ r ∣ n := by
  intro n
  induction n using Nat.strongRecOn with
  | _ n ih =>
    intro hn
    by_cases h : ∀ d, d ∣ n → d = 1 ∨ d = n
    · exact ⟨n, ⟨hn, h⟩, Nat.dvd_refl n⟩
    · simp only [Classical.not_forall, not_or] at h
      obtain ⟨d, hd, h1, h2⟩ := h
      have hle := Nat.le_of_dvd (by omega) hd
      have h0 : d ≠ 0 := fun e => by subst e; have := Nat.eq_zero_of_zero_dvd hd; omega
      obtain ⟨r, hr, hrd⟩ := ih d (by omega) (by omega)
      exact ⟨r, hr, Nat.dvd_trans hrd hd⟩

theorem small_factor {n : Nat} (hn : 2 ≤ n) (h : ¬ Prm n) : ∃ r, Prm r ∧ r ∣ n ∧ r * r ≤ n := by
  have h' : ¬ ∀ d, d ∣ n → d = 1 ∨ d = n := fun h1 => h ⟨hn, h1⟩
  simp only [Classical.not_forall, not_or] at h'
  obtain ⟨d, ⟨e, rfl⟩, h1, h2⟩ := h'
  have hd0 : d ≠ 0 := fun e' => by subst e'; simp at hn
  have he0 : e ≠ 0 := fun e' => by subst e'; simp at hn
  have he1 : e ≠ 1 := fun e' => by subst e'; simp at h2
  rcases Nat.le_total d e with hde | hde
  · obtain ⟨r, hr, hrd⟩ := exists_prm d (by omega)
    refine ⟨r, hr, Nat.dvd_trans hrd (Nat.dvd_mul_right _ _), ?_⟩
    have := Nat.le_of_dvd (by omega) hrd
    exact Nat.mul_le_mul this (by omega)
  · obtain ⟨r, hr, hrd⟩ := exists_prm e (by omega)
    refine ⟨r, hr, Nat.dvd_trans hrd (Nat.dvd_mul_left _ _), ?_⟩
    have := Nat.le_of_dvd (by omega) hrd
    exact Nat.mul_le_mul (by omega) this

/-- What no small number divides is prime. -/
theorem prm_trial (n K : Nat) (hn : 2 ≤ n) (hK : n < K * K) (h : (List.range K).all (fun d => decide (d < 2) || decide (n % d ≠ 0)) = true) : Prm n := by
  refine Classical.byContradiction fun hc => ?_
  obtain ⟨r, hr, hd, hle⟩ := small_factor hn hc
  have hrK : r < K := Nat.lt_of_not_le fun hh => by have := Nat.mul_le_mul hh hh; omega
  have := List.all_eq_true.1 h r (List.mem_range.2 hrK)
  have h2 := hr.1
  simp only [Bool.or_eq_true, decide_eq_true_eq] at this
  rcases this with h3 | h3
  · omega
  · exact h3 (Nat.mod_eq_zero_of_dvd hd)

theorem pow_gcd {r b : Nat} : ∀ (e f : Nat), b ^ e % r = 1 % r → b ^ f % r = 1 % r → b ^ (Nat.gcd e f) % r = 1 % r := by
  intro e f
  induction e, f using Nat.gcd.induction with
  | H0 n => intro _ h; simpa using h
  | H1 m n hm ih =>
    intro h1 h2
    rw [Nat.gcd_rec]
    refine ih ?_ h1
    have e := Nat.div_add_mod n m
    rw [← e, Nat.pow_add, Nat.pow_mul, Nat.mul_mod, Nat.pow_mod, h1, ← Nat.pow_mod, Nat.one_pow, ← Nat.mul_mod, Nat.one_mul] at h2
    exact h2

/-- Pocklington's law, with one prime q of n - 1. -/
theorem prm_pock (n q m a K : Nat) (hn : 2 ≤ n) (hq : Prm q) (hm : n = q * m + 1) (h1 : a ^ (q * m) % n = 1) (h2 : Nat.gcd (a ^ m % n + (n - 1)) n = 1)
    (hK : n < (K * q + 1) * (K * q + 1)) (h : (List.range K).all (fun k => decide (k = 0) || decide (n % (k * q + 1) ≠ 0)) = true) : Prm n := by
  refine Classical.byContradiction fun hc => ?_
  obtain ⟨r, hr, hd, hle⟩ := small_factor hn hc
  have hr2 := hr.1
  have hq2 := hq.1
  have one_r : 1 % r = 1 := Nat.mod_eq_of_lt (by omega)
  have h1r : a ^ (q * m) % r = 1 % r := by
    rw [← Nat.mod_mod_of_dvd _ hd, h1]
  have hqm : q * m ≠ 0 := by omega
  have hra : ¬ r ∣ a := fun ha => by
    have h3 : r ∣ a ^ (q * m) := Nat.dvd_trans ha (dvd_pow_me a hqm) 
    rw [Nat.mod_eq_zero_of_dvd h3, one_r] at h1r; omega
  have hrm : ¬ r ∣ a ^ m := fun ha => by
    have h3 : r ∣ a ^ (q * m) := by rw [Nat.mul_comm, Nat.pow_mul]; exact Nat.dvd_trans ha (dvd_pow_me _ (by omega))
    rw [Nat.mod_eq_zero_of_dvd h3, one_r] at h1r; omega
  have hf := hr.fermat hrm
  have hbq : (a ^ m) ^ q % r = 1 % r := by rw [← Nat.pow_mul, Nat.mul_comm]; exact h1r
  have hg := pow_gcd q (r - 1) hbq (by rw [hf, one_r])
  have hqr : q ∣ r - 1 := by
    refine Classical.byContradiction fun hnd => ?_
    have hc1 : Nat.gcd q (r - 1) = 1 := hq.cop hnd
    rw [hc1, Nat.pow_one, one_r] at hg
    have hdv : r ∣ a ^ m % n + (n - 1) := by
      apply Nat.dvd_of_mod_eq_zero
      rw [Nat.add_mod, Nat.mod_mod_of_dvd _ hd, hg]
      obtain ⟨e, rfl⟩ := hd
      have he : e ≠ 0 := fun h0 => by subst h0; simp at hn
      obtain ⟨e', rfl⟩ : ∃ e', e = e' + 1 := ⟨e - 1, by omega⟩
      rw [show r * (e' + 1) - 1 = (r - 1) + r * e' by rw [Nat.mul_add]; omega, Nat.add_mul_mod_self_left, Nat.mod_eq_of_lt (show r - 1 < r by omega), show 1 + (r - 1) = r by omega, Nat.mod_self]
    have := Nat.dvd_gcd hdv hd
    rw [h2] at this
    have := Nat.le_of_dvd (by omega) this
    omega
  obtain ⟨k, hk⟩ := hqr
  have hrk : r = k * q + 1 := by rw [Nat.mul_comm]; omega
  have hkK : k < K := Nat.lt_of_not_le fun hh => by
    have h3 : K * q + 1 ≤ r := by rw [hrk]; exact Nat.add_le_add_right (Nat.mul_le_mul_right _ hh) 1
    have := Nat.mul_le_mul h3 h3
    omega
  have := List.all_eq_true.1 h k (List.mem_range.2 hkK)
  simp only [Bool.or_eq_true, decide_eq_true_eq] at this
  rcases this with h3 | h3
  · subst h3; simp at hrk; omega
  · exact h3 (by rw [← hrk]; exact Nat.mod_eq_zero_of_dvd hd)

/-- Powers modulo n, by squares. -/
def pmod (n : Nat) : Nat → Nat → Nat → Nat
  | 0, _, _ => 1 % n
  | f + 1, a, e => if e = 0 then 1 % n else
    let h := pmod n f (a * a % n) (e / 2)
    if e % 2 = 1 then h * a % n else h
theorem pmod_eq (n : Nat) : ∀ (f a e : Nat), e < 2 ^ f → pmod n f a e = a ^ e % n
  | 0, a, e, h => by
    obtain rfl : e = 0 := by simpa using h
    rfl
  | f + 1, a, e, h => by
    have ih := pmod_eq n f (a * a % n) (e / 2) (by rw [Nat.pow_succ] at h; omega)
    unfold pmod
    split
    · rename_i h0; subst h0; rfl
    · simp only [ih]
      have e2 : (a * a % n) ^ (e / 2) % n = a ^ (2 * (e / 2)) % n := by rw [← Nat.pow_mod, Nat.pow_mul, Nat.pow_two]
      split
      · rename_i h1
        rw [e2]
        have : a ^ e = a ^ (2 * (e / 2)) * a := by rw [← Nat.pow_succ]; congr 1; omega
        rw [this, Nat.mul_mod, Nat.mod_mod, ← Nat.mul_mod]
      · rw [e2]; congr 2; omega
/-- The same law, by a Bool that the kernel computes. -/
def pockB (n q m a K f : Nat) : Bool :=
  decide (2 ≤ n) && decide (n = q * m + 1) && decide (q * m < 2 ^ f) && decide (m < 2 ^ f) && decide (pmod n f a (q * m) = 1) && decide (Nat.gcd (pmod n f a m + (n - 1)) n = 1) && decide (n < (K * q + 1) * (K * q + 1)) &&
    (List.range K).all (fun k => decide (k = 0) || decide (n % (k * q + 1) ≠ 0))
theorem prm_of (n q m a K f : Nat) (hq : Prm q) (h : pockB n q m a K f = true) : Prm n := by
  simp only [pockB, Bool.and_eq_true, decide_eq_true_eq] at h
  obtain ⟨⟨⟨⟨⟨⟨⟨h1, h2⟩, h3⟩, h4⟩, h5⟩, h6⟩, h7⟩, h8⟩ := h
  rw [pmod_eq _ _ _ _ h3] at h5
  rw [pmod_eq _ _ _ _ h4] at h6
  exact prm_pock n q m a K h1 hq h2 h5 h6 h7 h8
end Go.Prm
