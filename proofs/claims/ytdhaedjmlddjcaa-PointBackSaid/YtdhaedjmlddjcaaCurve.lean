/- The curve's law of sums, over numbers modulo n in which all but nought have an inverse: plain algebra. Conditions: those written. -/
namespace Go.Crv
/-- A pair of numbers. -/
structure Pt (n : Nat) where
  x : Fin n
  y : Fin n
theorem Pt.ext' {n : Nat} {P Q : Pt n} (hx : P.x = Q.x) (hy : P.y = Q.y) : P = Q := by
  cases P; cases Q; simp_all
variable {n : Nat} [NeZero n]

/-- The equation. -/
def On (d x y : Fin n) : Prop := y * y - x * x = 1 + d * (x * x * (y * y))

/-- What is asked of the numbers: an inverse; a root of -1; d is no square; 2 is not 0. -/
structure Good (d : Fin n) (inv : Fin n → Fin n) (i : Fin n) : Prop where
  inv : ∀ a, a ≠ 0 → a * inv a = 1
  root : i * i = -1
  sq : ∀ a b : Fin n, a * a = d * (b * b) → b = 0
  two : (2 : Fin n) ≠ 0
  one : (1 : Fin n) ≠ 0

variable {d : Fin n} {inv : Fin n → Fin n} {i : Fin n}
theorem Good.nz (G : Good d inv i) {a b : Fin n} (h : a * b = 0) : a = 0 ∨ b = 0 := by
  by_cases ha : a = 0
  · exact .inl ha
  · have := G.inv a ha
    exact .inr (by grind)
theorem Good.nz2 (G : Good d inv i) {a b : Fin n} (ha : a ≠ 0) (hb : b ≠ 0) : a * b ≠ 0 := fun h => (G.nz h).elim ha hb
theorem Good.cancel (G : Good d inv i) {a b c : Fin n} (hc : c ≠ 0) (h : a * c = b * c) : a = b := by
  have := G.inv c hc
  grind

/-- No sum has a denominator of 0. -/
theorem Good.full (G : Good d inv i) {x1 y1 x2 y2 e : Fin n} (e1 : On d x1 y1) (e2 : On d x2 y2) (he : e * e = 1) : d * (x1 * x2 * (y1 * y2)) ≠ e := by
  intro h
  unfold On at e1 e2
  have hr := G.root
  have hx1 : x1 ≠ 0 := fun h0 => G.one (by subst h0; grind)
  have hy1 : y1 ≠ 0 := fun h0 => G.one (by subst h0; grind)
  have hx2 : x2 ≠ 0 := fun h0 => G.one (by subst h0; grind)
  have k1 : (i * x1 + e * y1) * (i * x1 + e * y1) = d * ((x1 * y1 * (y2 + i * x2)) * (x1 * y1 * (y2 + i * x2))) := by
    have h1 : d * (x1 * x1 * (y1 * y1)) * (y2 * y2 - x2 * x2) = y1 * y1 - x1 * x1 := by grind
    grind
  have k2 : (i * x1 - e * y1) * (i * x1 - e * y1) = d * ((x1 * y1 * (y2 - i * x2)) * (x1 * y1 * (y2 - i * x2))) := by
    have h1 : d * (x1 * x1 * (y1 * y1)) * (y2 * y2 - x2 * x2) = y1 * y1 - x1 * x1 := by grind
    grind
  have z1 := G.sq _ _ k1
  have z2 := G.sq _ _ k2
  have hxy := G.nz2 hx1 hy1
  have u1 := (G.nz z1).resolve_left hxy
  have u2 := (G.nz z2).resolve_left hxy
  have u3 : 2 * (i * x2) = 0 := by grind
  have u4 := (G.nz u3).resolve_left G.two
  rcases G.nz u4 with h0 | h0
  · exact G.one (by rw [h0] at hr; grind)
  · exact hx2 h0

def Pt.on (d : Fin n) (P : Pt n) : Prop := On d P.x P.y
/-- The sum. -/
def add (d : Fin n) (inv : Fin n → Fin n) (P Q : Pt n) : Pt n :=
  ⟨(P.x * Q.y + Q.x * P.y) * inv (1 + d * (P.x * Q.x * (P.y * Q.y))), (P.y * Q.y + P.x * Q.x) * inv (1 - d * (P.x * Q.x * (P.y * Q.y)))⟩
def neg (P : Pt n) : Pt n := ⟨0 - P.x, P.y⟩
def zero : Pt n := ⟨0, 1⟩

theorem Good.plus_nz (G : Good d inv i) {P Q : Pt n} (hP : P.on d) (hQ : Q.on d) : 1 + d * (P.x * Q.x * (P.y * Q.y)) ≠ 0 := fun h =>
  G.full hP hQ (e := -1) (by grind) (by grind)
theorem Good.minus_nz (G : Good d inv i) {P Q : Pt n} (hP : P.on d) (hQ : Q.on d) : 1 - d * (P.x * Q.x * (P.y * Q.y)) ≠ 0 := fun h =>
  G.full hP hQ (e := 1) (by grind) (by grind)
theorem Good.addx (G : Good d inv i) {P Q : Pt n} (hP : P.on d) (hQ : Q.on d) : (add d inv P Q).x * (1 + d * (P.x * Q.x * (P.y * Q.y))) = P.x * Q.y + Q.x * P.y := by
  have := G.inv _ (G.plus_nz hP hQ)
  show (P.x * Q.y + Q.x * P.y) * inv (1 + d * (P.x * Q.x * (P.y * Q.y))) * (1 + d * (P.x * Q.x * (P.y * Q.y))) = _
  generalize inv (1 + d * (P.x * Q.x * (P.y * Q.y))) = z at *
  generalize 1 + d * (P.x * Q.x * (P.y * Q.y)) = u at *
  grind
theorem Good.addy (G : Good d inv i) {P Q : Pt n} (hP : P.on d) (hQ : Q.on d) : (add d inv P Q).y * (1 - d * (P.x * Q.x * (P.y * Q.y))) = P.y * Q.y + P.x * Q.x := by
  have := G.inv _ (G.minus_nz hP hQ)
  show (P.y * Q.y + P.x * Q.x) * inv (1 - d * (P.x * Q.x * (P.y * Q.y))) * (1 - d * (P.x * Q.x * (P.y * Q.y))) = _
  generalize inv (1 - d * (P.x * Q.x * (P.y * Q.y))) = z at *
  generalize 1 - d * (P.x * Q.x * (P.y * Q.y)) = u at *
  grind
/-- What is a sum is told by the two equations. -/
theorem Good.add_of (G : Good d inv i) {P Q R : Pt n} (hP : P.on d) (hQ : Q.on d) (hx : R.x * (1 + d * (P.x * Q.x * (P.y * Q.y))) = P.x * Q.y + Q.x * P.y) (hy : R.y * (1 - d * (P.x * Q.x * (P.y * Q.y))) = P.y * Q.y + P.x * Q.x) : R = add d inv P Q :=
  Pt.ext' (G.cancel (G.plus_nz hP hQ) (hx.trans (G.addx hP hQ).symm)) (G.cancel (G.minus_nz hP hQ) (hy.trans (G.addy hP hQ).symm))
theorem closed_poly (d x1 y1 x2 y2 : Fin n) (e1 : y1 * y1 - x1 * x1 = 1 + d * (x1 * x1 * (y1 * y1))) (e2 : y2 * y2 - x2 * x2 = 1 + d * (x2 * x2 * (y2 * y2))) :
    ((y1 * y2 + x1 * x2) * (1 + d * (x1 * x2 * (y1 * y2)))) * ((y1 * y2 + x1 * x2) * (1 + d * (x1 * x2 * (y1 * y2)))) - ((x1 * y2 + x2 * y1) * (1 - d * (x1 * x2 * (y1 * y2)))) * ((x1 * y2 + x2 * y1) * (1 - d * (x1 * x2 * (y1 * y2)))) =
    ((1 + d * (x1 * x2 * (y1 * y2))) * (1 - d * (x1 * x2 * (y1 * y2)))) * ((1 + d * (x1 * x2 * (y1 * y2))) * (1 - d * (x1 * x2 * (y1 * y2)))) + d * (((x1 * y2 + x2 * y1) * (x1 * y2 + x2 * y1)) * ((y1 * y2 + x1 * x2) * (y1 * y2 + x1 * x2))) := by
  grind
theorem Good.on_add (G : Good d inv i) {P Q : Pt n} (hP : P.on d) (hQ : Q.on d) : (add d inv P Q).on d := by
  have hx := G.addx hP hQ
  have hy := G.addy hP hQ
  have h1 := G.plus_nz hP hQ
  have h2 := G.minus_nz hP hQ
  have hk := closed_poly d P.x P.y Q.x Q.y hP hQ
  rw [← hx, ← hy] at hk
  show On d _ _
  unfold On
  generalize (add d inv P Q).x = X at *
  generalize (add d inv P Q).y = Y at *
  generalize 1 + d * (P.x * Q.x * (P.y * Q.y)) = u at *
  generalize 1 - d * (P.x * Q.x * (P.y * Q.y)) = v at *
  have huv := G.nz2 (G.nz2 h1 h2) (G.nz2 h1 h2)
  refine G.cancel huv ?_
  clear hx hy h1 h2 huv
  grind
theorem add_comm (P Q : Pt n) : add d inv P Q = add d inv Q P := by
  unfold add
  rw [show P.x * Q.x = Q.x * P.x by grind, show P.y * Q.y = Q.y * P.y by grind, show P.x * Q.y + Q.x * P.y = Q.x * P.y + P.x * Q.y by grind]
theorem assoc_x (d x1 y1 x2 y2 x3 y3 : Fin n) (e1 : y1*y1 - x1*x1 = 1 + d*(x1*x1*(y1*y1))) (e2 : y2*y2 - x2*x2 = 1 + d*(x2*x2*(y2*y2))) (e3 : y3*y3 - x3*x3 = 1 + d*(x3*x3*(y3*y3))) :
    ((x1*y2+x2*y1)*(1 - d*(x1*x2*(y1*y2)))*y3 + x3*((y1*y2+x1*x2)*(1 + d*(x1*x2*(y1*y2))))) * ((1 + d*(x2*x3*(y2*y3)))*(1 - d*(x2*x3*(y2*y3))) + d*(x1*(x2*y3+x3*y2)*(y1*(y2*y3+x2*x3)))) =
    (x1*((y2*y3+x2*x3)*(1 + d*(x2*x3*(y2*y3)))) + (x2*y3+x3*y2)*(1 - d*(x2*x3*(y2*y3)))*y1) * ((1 + d*(x1*x2*(y1*y2)))*(1 - d*(x1*x2*(y1*y2))) + d*((x1*y2+x2*y1)*x3*((y1*y2+x1*x2)*y3))) := by
  grind
theorem assoc_y (d x1 y1 x2 y2 x3 y3 : Fin n) (e1 : y1*y1 - x1*x1 = 1 + d*(x1*x1*(y1*y1))) (e2 : y2*y2 - x2*x2 = 1 + d*(x2*x2*(y2*y2))) (e3 : y3*y3 - x3*x3 = 1 + d*(x3*x3*(y3*y3))) :
    ((y1*y2+x1*x2)*(1 + d*(x1*x2*(y1*y2)))*y3 + (x1*y2+x2*y1)*(1 - d*(x1*x2*(y1*y2)))*x3) * ((1 + d*(x2*x3*(y2*y3)))*(1 - d*(x2*x3*(y2*y3))) - d*(x1*(x2*y3+x3*y2)*(y1*(y2*y3+x2*x3)))) =
    (y1*((y2*y3+x2*x3)*(1 + d*(x2*x3*(y2*y3)))) + x1*((x2*y3+x3*y2)*(1 - d*(x2*x3*(y2*y3))))) * ((1 + d*(x1*x2*(y1*y2)))*(1 - d*(x1*x2*(y1*y2))) - d*((x1*y2+x2*y1)*x3*((y1*y2+x1*x2)*y3))) := by
  grind
/-- The one that adds nothing. -/
theorem zero_on : (zero : Pt n).on d := by
  show On d 0 1
  unfold On
  grind
theorem neg_on {P : Pt n} (h : P.on d) : (neg P).on d := by
  show On d (0 - P.x) P.y
  have h' : On d P.x P.y := h
  unfold On at *
  grind
theorem Good.add_zero (G : Good d inv i) {P : Pt n} (hP : P.on d) : add d inv P zero = P := by
  refine (G.add_of hP zero_on ?_ ?_).symm
  · show P.x * (1 + d * (P.x * 0 * (P.y * 1))) = P.x * 1 + 0 * P.y
    grind
  · show P.y * (1 - d * (P.x * 0 * (P.y * 1))) = P.y * 1 + P.x * 0
    grind
theorem Good.zero_add (G : Good d inv i) {P : Pt n} (hP : P.on d) : add d inv zero P = P := by
  rw [add_comm, G.add_zero hP]
theorem Good.add_neg (G : Good d inv i) {P : Pt n} (hP : P.on d) : add d inv P (neg P) = zero := by
  have h' : On d P.x P.y := hP
  unfold On at h'
  refine (G.add_of hP (neg_on hP) ?_ ?_).symm
  · show 0 * (1 + d * (P.x * (0 - P.x) * (P.y * P.y))) = P.x * P.y + (0 - P.x) * P.y
    grind
  · show 1 * (1 - d * (P.x * (0 - P.x) * (P.y * P.y))) = P.y * P.y + P.x * (0 - P.x)
    grind
/-- Grouped however. -/
theorem Good.assoc (G : Good d inv i) {P Q R : Pt n} (hP : P.on d) (hQ : Q.on d) (hR : R.on d) : add d inv (add d inv P Q) R = add d inv P (add d inv Q R) := by
  have hPQ := G.on_add hP hQ
  have hQR := G.on_add hQ hR
  have a1 := G.addx hP hQ
  have a2 := G.addy hP hQ
  have b1 := G.addx hQ hR
  have b2 := G.addy hQ hR
  have c1 := G.addx hPQ hR
  have c2 := G.addy hPQ hR
  have d1 := G.addx hP hQR
  have d2 := G.addy hP hQR
  have n1 := G.plus_nz hP hQ
  have n2 := G.minus_nz hP hQ
  have n3 := G.plus_nz hQ hR
  have n4 := G.minus_nz hQ hR
  have m1 := G.plus_nz hPQ hR
  have m2 := G.minus_nz hPQ hR
  have m3 := G.plus_nz hP hQR
  have m4 := G.minus_nz hP hQR
  have kx := assoc_x d P.x P.y Q.x Q.y R.x R.y hP hQ hR
  have ky := assoc_y d P.x P.y Q.x Q.y R.x R.y hP hQ hR
  rw [← a1, ← a2, ← b1, ← b2] at kx ky
  clear a1 a2 b1 b2 hPQ hQR hP hQ hR
  generalize (add d inv (add d inv P Q) R) = L at *
  generalize (add d inv P (add d inv Q R)) = M at *
  generalize add d inv P Q = S at *
  generalize add d inv Q R = T at *
  generalize 1 + d * (P.x * Q.x * (P.y * Q.y)) = u1 at *
  generalize 1 - d * (P.x * Q.x * (P.y * Q.y)) = u2 at *
  generalize 1 + d * (Q.x * R.x * (Q.y * R.y)) = v1 at *
  generalize 1 - d * (Q.x * R.x * (Q.y * R.y)) = v2 at *
  have hu := G.nz2 n1 n2
  have hv := G.nz2 n3 n4
  refine Pt.ext' ?_ ?_
  · have hz := G.nz2 (G.nz2 hu m1) (G.nz2 hv m3)
    refine G.cancel hz ?_
    have e1 : L.x * (u1 * u2 * (1 + d * (S.x * R.x * (S.y * R.y))) * (v1 * v2 * (1 + d * (P.x * T.x * (P.y * T.y))))) = (L.x * (1 + d * (S.x * R.x * (S.y * R.y)))) * (u1 * u2 * (v1 * v2 * (1 + d * (P.x * T.x * (P.y * T.y))))) := by grind
    have e2 : M.x * (u1 * u2 * (1 + d * (S.x * R.x * (S.y * R.y))) * (v1 * v2 * (1 + d * (P.x * T.x * (P.y * T.y))))) = (M.x * (1 + d * (P.x * T.x * (P.y * T.y)))) * (u1 * u2 * (1 + d * (S.x * R.x * (S.y * R.y))) * (v1 * v2)) := by grind
    rw [e1, e2, c1, d1]
    clear e1 e2 c1 c2 d1 d2 ky n1 n2 n3 n4 m1 m2 m3 m4 hu hv hz
    grind
  · have hz := G.nz2 (G.nz2 hu m2) (G.nz2 hv m4)
    refine G.cancel hz ?_
    have e1 : L.y * (u1 * u2 * (1 - d * (S.x * R.x * (S.y * R.y))) * (v1 * v2 * (1 - d * (P.x * T.x * (P.y * T.y))))) = (L.y * (1 - d * (S.x * R.x * (S.y * R.y)))) * (u1 * u2 * (v1 * v2 * (1 - d * (P.x * T.x * (P.y * T.y))))) := by grind
    have e2 : M.y * (u1 * u2 * (1 - d * (S.x * R.x * (S.y * R.y))) * (v1 * v2 * (1 - d * (P.x * T.x * (P.y * T.y))))) = (M.y * (1 - d * (P.x * T.x * (P.y * T.y)))) * (u1 * u2 * (1 - d * (S.x * R.x * (S.y * R.y))) * (v1 * v2)) := by grind
    rw [e1, e2, c2, d2]
    clear e1 e2 c1 c2 d1 d2 kx n1 n2 n3 n4 m1 m2 m3 m4 hu hv hz
    grind
/-- A point so often. -/
def nmul (d : Fin n) (inv : Fin n → Fin n) (P : Pt n) : Nat → Pt n
  | 0 => zero
  | k + 1 => add d inv (nmul d inv P k) P
theorem Good.nmul_on (G : Good d inv i) {P : Pt n} (hP : P.on d) : ∀ k, (nmul d inv P k).on d
  | 0 => zero_on
  | k + 1 => G.on_add (G.nmul_on hP k) hP
theorem Good.nmul_add (G : Good d inv i) {P : Pt n} (hP : P.on d) (a : Nat) : ∀ b, nmul d inv P (a + b) = add d inv (nmul d inv P a) (nmul d inv P b)
  | 0 => (G.add_zero (G.nmul_on hP a)).symm
  | b + 1 => by
    show add d inv (nmul d inv P (a + b)) P = add d inv (nmul d inv P a) (add d inv (nmul d inv P b) P)
    rw [G.nmul_add hP a b, G.assoc (G.nmul_on hP a) (G.nmul_on hP b) hP]
end Go.Crv
