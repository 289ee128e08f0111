/- What the program and the reference compute with denominators is the sum of points. Conditions: points of the curve. -/
import Derived.Test.YtdhaedjmlddjcaaFld
import Derived.Test.YtdhaedjmlddjcaaRefI
namespace Go.Num
open Go Go.Prm Go.Crv
abbrev gsum (P Q : Pt p) : Pt p := add (fe dd) inv P Q
abbrev gmul (P : Pt p) (k : Nat) : Pt p := nmul (fe dd) inv P k
def onP (P : Pt p) : Prop := P.on (fe dd)
theorem gsum_on {P Q : Pt p} (hP : onP P) (hQ : onP Q) : onP (gsum P Q) := good.on_add hP hQ
theorem gmul_on {P : Pt p} (hP : onP P) (k : Nat) : onP (gmul P k) := good.nmul_on hP k
theorem zero_onP : onP zero := zero_on
theorem val_eq {a : Nat} {x : Fin p} (ha : a < p) (h : fe a = x) : a = x.val := by
  subst h
  exact (Nat.mod_eq_of_lt ha).symm

/-! ### The program's freed points -/
structure Rep (f : F4) (P : Pt p) : Prop where
  z : fe f.z ≠ 0
  x : fe f.x = P.x * fe f.z
  y : fe f.y = P.y * fe f.z
  t : fe f.t = P.x * P.y * fe f.z
theorem Rep.of (P : Pt p) : Rep (ofP P.x.val P.y.val) P := by
  refine ⟨?_, ?_, ?_, ?_⟩
  · show fe 1 ≠ 0
    rw [fe_one]; exact good.one
  · show fe P.x.val = P.x * fe 1
    rw [fe_self, fe_one]; grind
  · show fe P.y.val = P.y * fe 1
    rw [fe_self, fe_one]; grind
  · show fe (fmul P.x.val P.y.val) = P.x * P.y * fe 1
    rw [fe_mul, fe_self, fe_self, fe_one]; grind
theorem rep_alg {n : Nat} [NeZero n] {d x1 y1 x2 y2 z1 z2 sx sy : Fin n} (hx : sx * (1 + d * (x1 * x2 * (y1 * y2))) = x1 * y2 + x2 * y1) (hy : sy * (1 - d * (x1 * x2 * (y1 * y2))) = y1 * y2 + x1 * x2) :
    ((y1 * z1 + x1 * z1) * (y2 * z2 + x2 * z2) - (y1 * z1 - x1 * z1) * (y2 * z2 - x2 * z2) = sx * ((z1 + z1) * z2 + x1 * y1 * z1 * (x2 * y2 * z2) * (d + d))) ∧
    ((y1 * z1 + x1 * z1) * (y2 * z2 + x2 * z2) + (y1 * z1 - x1 * z1) * (y2 * z2 - x2 * z2) = sy * ((z1 + z1) * z2 - x1 * y1 * z1 * (x2 * y2 * z2) * (d + d))) := by
  constructor <;> grind
theorem Rep.add {f g : F4} {P Q : Pt p} (hf : Rep f P) (hg : Rep g Q) (hP : onP P) (hQ : onP Q) : Rep (addP f g) (gsum P Q) := by
  have hx := good.addx hP hQ
  have hy := good.addy hP hQ
  have n1 := good.plus_nz hP hQ
  have n2 := good.minus_nz hP hQ
  obtain ⟨a1, a2⟩ := rep_alg (z1 := fe f.z) (z2 := fe g.z) hx hy
  have eE : fe (addE f g) = (gsum P Q).x * fe (addG f g) := by
    simp only [addE, addG, addA, addB, addC, addD, fe_add, fe_sub, fe_mul, hf.x, hf.y, hf.t, hg.x, hg.y, hg.t]
    exact a1
  have eH : fe (addH f g) = (gsum P Q).y * fe (addF f g) := by
    simp only [addH, addF, addA, addB, addC, addD, fe_add, fe_sub, fe_mul, hf.x, hf.y, hf.t, hg.x, hg.y, hg.t]
    exact a2
  have hF : fe (addF f g) = 2 * (fe f.z * fe g.z) * (1 - fe dd * (P.x * Q.x * (P.y * Q.y))) := by
    simp only [addF, addC, addD, fe_add, fe_sub, fe_mul, hf.t, hg.t]
    grind
  have hG : fe (addG f g) = 2 * (fe f.z * fe g.z) * (1 + fe dd * (P.x * Q.x * (P.y * Q.y))) := by
    simp only [addG, addC, addD, fe_add, fe_mul, hf.t, hg.t]
    grind
  have zz := good.nz2 good.two (good.nz2 hf.z hg.z)
  have nF : fe (addF f g) ≠ 0 := by rw [hF]; exact good.nz2 zz n2
  have nG : fe (addG f g) ≠ 0 := by rw [hG]; exact good.nz2 zz n1
  refine ⟨?_, ?_, ?_, ?_⟩
  · show fe (fmul (addF f g) (addG f g)) ≠ 0
    rw [fe_mul]; exact good.nz2 nF nG
  · show fe (fmul (addE f g) (addF f g)) = _ * fe (fmul (addF f g) (addG f g))
    rw [fe_mul, fe_mul, eE]; grind
  · show fe (fmul (addG f g) (addH f g)) = _ * fe (fmul (addF f g) (addG f g))
    rw [fe_mul, fe_mul, eH]; grind
  · show fe (fmul (addE f g) (addH f g)) = _ * fe (fmul (addF f g) (addG f g))
    rw [fe_mul, fe_mul, eE, eH]; grind
theorem div_out {x z : Nat} {a : Fin p} (hz : z < p) (h : fe z ≠ 0) (hx : fe x = a * fe z) : fmul x (finv z) = a.val := by
  refine val_eq (fmul_lt _ _) ?_
  rw [fe_mul, fe_finv z hz, hx]
  have := good.inv _ h
  generalize inv (fe z) = w at *
  grind
theorem Rep.out {f : F4} {P : Pt p} (h : Rep f P) (hz : f.z < p) : ptX f = P.x.val ∧ ptY f = P.y.val :=
  ⟨div_out hz h.z h.x, div_out hz h.z h.y⟩

/-! ### The reference's -/
structure Rep3 (f : T3) (P : Pt p) : Prop where
  z : fe f.z ≠ 0
  x : fe f.x = P.x * fe f.z
  y : fe f.y = P.y * fe f.z
theorem Rep3.of (P : Pt p) : Rep3 ⟨P.x.val, P.y.val, 1⟩ P := by
  refine ⟨?_, ?_, ?_⟩
  · show fe 1 ≠ 0
    rw [fe_one]; exact good.one
  · show fe P.x.val = P.x * fe 1
    rw [fe_self, fe_one]; grind
  · show fe P.y.val = P.y * fe 1
    rw [fe_self, fe_one]; grind
theorem Rep3.plus {f g : T3} {P Q : Pt p} (hf : Rep3 f P) (hg : Rep3 g Q) (hP : onP P) (hQ : onP Q) : Rep3 (plus3 dd f g) (gsum P Q) := by
  have hx := good.addx hP hQ
  have hy := good.addy hP hQ
  have n1 := good.plus_nz hP hQ
  have n2 := good.minus_nz hP hQ
  have hA : fe (plA f g) = fe f.z * fe g.z := by simp only [plA, fe_mul]
  have hG : fe (plG dd f g) = fe (plA f g) * fe (plA f g) * (1 - fe dd * (P.x * Q.x * (P.y * Q.y))) := by
    simp only [plG, plB, plF, plC, plE, plA, fe_sub, fe_mul, hf.x, hf.y, hg.x, hg.y]
    grind
  have hH : fe (plH dd f g) = fe (plA f g) * fe (plA f g) * (1 + fe dd * (P.x * Q.x * (P.y * Q.y))) := by
    simp only [plH, plB, plF, plC, plE, plA, fe_add, fe_mul, hf.x, hf.y, hg.x, hg.y]
    grind
  have hX : fe (plX f g) = fe (plA f g) * (P.x * Q.y + Q.x * P.y) := by
    simp only [plX, plC, plE, plA, fe_sub, fe_add, fe_mul, hf.x, hf.y, hg.x, hg.y]
    grind
  have hY : fe (fadd (plC f g) (plE f g)) = fe (plA f g) * (P.y * Q.y + P.x * Q.x) := by
    simp only [plC, plE, plA, fe_add, fe_mul, hf.x, hf.y, hg.x, hg.y]
    grind
  have nA : fe (plA f g) ≠ 0 := by rw [hA]; exact good.nz2 hf.z hg.z
  have nG : fe (plG dd f g) ≠ 0 := by rw [hG]; exact good.nz2 (good.nz2 nA nA) n2
  have nH : fe (plH dd f g) ≠ 0 := by rw [hH]; exact good.nz2 (good.nz2 nA nA) n1
  rw [← hx] at hX
  rw [← hy] at hY
  refine ⟨?_, ?_, ?_⟩
  · show fe (fmul (plG dd f g) (plH dd f g)) ≠ 0
    rw [fe_mul]; exact good.nz2 nG nH
  · show fe (fmul (fmul (plA f g) (plG dd f g)) (plX f g)) = _ * fe (fmul (plG dd f g) (plH dd f g))
    rw [fe_mul, fe_mul, fe_mul, hX, hH]; grind
  · show fe (fmul (fmul (plA f g) (plH dd f g)) (fadd (plC f g) (plE f g))) = _ * fe (fmul (plG dd f g) (plH dd f g))
    rw [fe_mul, fe_mul, fe_mul, hY, hG]; grind
theorem Rep3.out {f : T3} {P : Pt p} (h : Rep3 f P) (hz : f.z < p) : flX f = P.x.val ∧ flY f = P.y.val :=
  ⟨div_out hz h.z h.x, div_out hz h.z h.y⟩

/-! ### A point so often -/
def gdbl (Q O : Pt p) (b : Bool) : Pt p := if b then gsum (gsum O O) Q else gsum O O
theorem gdbl_mul {P : Pt p} (hP : onP P) (q : Nat) (b : Bool) : gdbl P (gmul P q) b = gmul P (2 * q + b.toNat) := by
  have h1 : gsum (gmul P q) (gmul P q) = gmul P (2 * q) := by
    rw [show 2 * q = q + q by omega]; exact (good.nmul_add hP q q).symm
  cases b
  · exact h1
  · show gsum (gsum (gmul P q) (gmul P q)) P = gmul P (2 * q + 1)
    rw [h1]; rfl
theorem bits_fold {α : Type} (R : α → Pt p → Prop) (st : α → Bool → α) (a0 : α) (P : Pt p) (hP : onP P) (h0 : R a0 zero)
    (hs : ∀ a O b, onP O → R a O → R (st a b) (gdbl P O b)) (k : Nat) (hk : k < W ^ 4) : R ((hiBits k 0).foldl st a0) (gmul P k) := by
  have key : ∀ (j m : Nat), m + j = 256 → R ((hiBits k m).foldl st a0) (gmul P (k / 2 ^ m)) := by
    intro j
    induction j with
    | zero =>
      intro m hm
      obtain rfl : m = 256 := by omega
      rw [hiBits_start, Nat.div_eq_of_lt (by rw [W4] at hk; exact hk)]
      exact h0
    | succ j ih =>
      intro m hm
      have h1 := ih (m + 1) (by omega)
      rw [hiBits_step k m (by omega), List.foldl_append]
      have h2 := hs _ _ (k.testBit m) (gmul_on hP _) h1
      rw [gdbl_mul hP] at h2
      have h3 : 2 * (k / 2 ^ (m + 1)) + (k.testBit m).toNat = k / 2 ^ m := by
        rw [Nat.testBit_eq_decide_div_mod_eq, Nat.pow_succ, ← Nat.div_div_eq_div_mul]
        generalize k / 2 ^ m = r
        rcases (show r % 2 = 0 ∨ r % 2 = 1 by omega) with h | h <;> simp [h] <;> omega
      rw [h3] at h2
      exact h2
  have := key 256 0 rfl
  rwa [Nat.pow_zero, Nat.div_one] at this
end Go.Num
