/- Roots of squares; what the bytes of a point say. Plain lemmas; condition: a point of the curve. -/
import Derived.Test.YtdhaedjmlddjcaaSome
namespace Go.Num
open Go Go.Prm Go.Crv
theorem numOf_byteAt (n : Nat) : ∀ m, numOf (byteAt n) m = n % 256 ^ m
  | 0 => by simp [numOf, Nat.mod_one]
  | m + 1 => by
    simp only [numOf]
    rw [numOf_byteAt n m, Nat.pow_succ, Nat.mod_mul]
    unfold byteAt
    rw [Nat.mul_comm (n / 256 ^ m % 256)]
theorem two_i : fmul (powF 2 14474011154664524427946373126085988481658748083205070504932198000989141204987) (powF 2 14474011154664524427946373126085988481658748083205070504932198000989141204987) = p - 1 := by decide +kernel
theorem one_or_gen {n : Nat} [NeZero n] {d : Fin n} {iv : Fin n → Fin n} {i : Fin n} (G : Crv.Good d iv i) {c : Fin n} (h : c * c = 1) : c = 1 ∨ c = -1 := by
  have h1 : (c - 1) * (c + 1) = 0 := by grind
  rcases G.nz h1 with h2 | h2
  · exact .inl (by grind)
  · exact .inr (by grind)
theorem pm_gen {n : Nat} [NeZero n] {d : Fin n} {iv : Fin n → Fin n} {i : Fin n} (G : Crv.Good d iv i) {r s : Fin n} (h : r * r = s * s) : r = s ∨ r = 0 - s := by
  have h1 : (r - s) * (r + s) = 0 := by grind
  rcases G.nz h1 with h2 | h2
  · exact .inl (by grind)
  · exact .inr (by grind)
theorem across_back {n : Nat} [NeZero n] {d x y v : Fin n} (hi : (d * (y * y) + 1) * v = 1) (h : y * y - x * x = 1 + d * (x * x * (y * y))) : (y * y - 1) * v = x * x := by
  have h1 : y * y - 1 = x * x * (d * (y * y) + 1) := by grind
  rw [h1]
  grind
theorem root_gen {n : Nat} [NeZero n] {x t A c : Fin n} (hx : x * x = A * c) (hc : c = -1) (ht : t * t = -1) : x * t * (x * t) = A := by
  subst hc
  grind
/-- A quarter of p - 1. -/
def qp : Nat := 14474011154664524427946373126085988481658748083205070504932198000989141204987
theorem qp4 : qp * 4 = p - 1 := by decide +kernel
theorem e1q : e1 + e1 = qp + 1 := by decide +kernel
theorem qp_256 : qp < 2 ^ 256 := by decide +kernel
theorem fe_eq_of {a b : Nat} (h : a % p = b % p) : fe a = fe b := by
  apply Fin.ext
  exact h
theorem fe_mul' (a b : Nat) : fe (a * b) = fe a * fe b := by
  rw [← fe_mul]
  apply fe_eq_of
  unfold fmul
  rw [Nat.mod_mod]
theorem quarter {A s : Nat} (hA : fe A = fe s * fe s) (hs : ¬ p ∣ s) : fe (A ^ qp) * fe (A ^ qp) = 1 := by
  rw [← fe_mul', ← Nat.pow_add, show qp + qp = 2 * qp by omega]
  have h1 : A % p = s * s % p := by
    have : fe A = fe (s * s) := by rw [hA, fe_mul']
    exact congrArg Fin.val this
  have h2 : fe (A ^ (2 * qp)) = fe ((s * s) ^ (2 * qp)) := fe_eq_of (mod_pow_eq h1 _)
  rw [h2, ← Nat.pow_two, ← Nat.pow_mul, show 2 * (2 * qp) = p - 1 by rw [← qp4]; omega, ← fe_one]
  apply fe_eq_of
  rw [prm_p.fermat hs]
  exact (Nat.mod_eq_of_lt one_lt).symm
end Go.Num
namespace Go.Proofs.Ytdhaedjmlddjcaa
open Go.Num Go.Prm Go.Crv
theorem rootA_sq (a : Nat) : fe (rootA a) * fe (rootA a) = fe a * fe (fnorm a ^ qp) := by
  have h : fe (rootA a) = fe (fnorm a ^ e1) := by
    unfold rootA
    rw [powF_eq _ _ (by decide +kernel)]
    apply fe_eq_of
    rw [Nat.mod_mod]
  rw [h, ← fe_mul', ← Nat.pow_add, e1q, Nat.pow_succ, fe_mul', fe_norm]
  generalize fe (fnorm a ^ qp) = u
  generalize fe a = v
  grind
theorem root_ok {a s : Nat} (h : fe a = fe s * fe s) : rootOk a = true := by
  have hn : fe (fnorm a) = fe a := fe_norm a
  have key : fe (rootB a) * fe (rootB a) = fe a := by
    unfold rootB
    by_cases he : eqN (fmul (rootA a) (rootA a)) (fnorm a) = true
    · rw [if_pos he, ← fe_mul, eqN_true.1 he, hn]
    · rw [if_neg he]
      by_cases hs : p ∣ s
      · exfalso
        apply he
        rw [eqN_true]
        have h0 : fe a = 0 := by
          rw [h, fe_eq_zero.2 hs]
          exact Fin.ext (by decide +kernel)
        refine fe_inj (fmul_lt _ _) (fnorm_lt _) ?_
        rw [fe_mul, rootA_sq, hn, h0]
        generalize fe (fnorm a ^ qp) = u
        grind
      · have hq := quarter (A := fnorm a) (hn.trans h) hs
        rcases one_or_gen good hq with h1 | h1
        · exfalso
          apply he
          rw [eqN_true]
          refine fe_inj (fmul_lt _ _) (fnorm_lt _) ?_
          rw [fe_mul, rootA_sq, hn, h1]
          generalize fe a = u
          grind
        · rw [fe_mul]
          have ht : fe (powF 2 e2) * fe (powF 2 e2) = -1 := by rw [← fe_mul, ← fe_m1]; exact congrArg fe two_i
          exact root_gen (rootA_sq a) h1 ht
  unfold rootOk
  rw [eqN_true]
  refine fe_inj (fmul_lt _ _) (fnorm_lt _) ?_
  rw [fe_mul, key, hn]
/-- The even one of a number and its opposite. -/
def evenOf (s : Nat) : Nat := if s % 2 = 0 then s else fsub 0 s
theorem root_is {a s : Nat} (hs : s < p) (h : fe a = fe s * fe s) : rootN a = evenOf s := by
  have hr := root_sq (root_ok h)
  have hev := root_even a
  have hl := rootN_lt a
  rw [h] at hr
  have hp := p_odd
  generalize rootN a = r at *
  unfold evenOf
  rcases pm_gen good hr with h1 | h1
  · have := fe_inj hl hs h1
    subst this
    rw [if_pos hev]
  · have h2 : fe r = fe (fsub 0 s) := by rw [h1, fe_neg]
    have h3 := fe_inj hl (fsub_lt _ _) h2
    by_cases h0 : s = 0
    · subst h0
      have : fsub 0 0 = 0 := by decide +kernel
      rw [if_pos rfl, h3, this]
    · have h4 := neg_val hs h0
      rw [if_neg (by omega), h3]
theorem across_sq {x y : Nat} (h : On (fe dd) (fe x) (fe y)) : fe (acrossA y) = fe x * fe x := by
  have hb := below_nz (fe y)
  have hi := good.inv _ hb
  unfold acrossA
  rw [fe_mul, fe_finv _ (fadd_lt _ _)]
  simp only [fe_sub, fe_add, fe_mul, fe_one]
  exact across_back hi h
/-- What a text says whose bytes are a point's, but for the highest bit. -/
theorem said {x y : Nat} (hx : x < p) (hy : y < p) (h : On (fe dd) (fe x) (fe y)) (f : Nat → Nat) (hY : rfY f = y) :
    rfLt f = true ∧ rfRt f = true ∧ rfX0 f = evenOf x := by
  refine ⟨?_, ?_, ?_⟩
  · unfold rfLt; rw [hY]; exact decide_eq_true hy
  · unfold rfRt; rw [hY]; exact root_ok (across_sq h)
  · unfold rfX0; rw [hY]; exact root_is hx (across_sq h)
theorem even_zero {x : Nat} (hx : x < p) : evenOf x = 0 ↔ x = 0 := by
  unfold evenOf
  split
  · exact Iff.rfl
  · rename_i h
    rw [neg_val hx (by omega)]
    omega
theorem even_back {x : Nat} (hx : x < p) : fsub 0 (fsub 0 x) = x := by
  by_cases h0 : x = 0
  · subst h0; decide +kernel
  · rw [neg_val hx h0, neg_val (by omega) (by omega)]; omega
end Go.Proofs.Ytdhaedjmlddjcaa
