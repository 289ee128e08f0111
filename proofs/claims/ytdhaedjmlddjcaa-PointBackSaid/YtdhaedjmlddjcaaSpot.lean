/- What bytes say is the same for the program and for the reference. Plain lemmas; condition: bytes. -/
import Derived.Test.YtdhaedjmlddjcaaGrp
import Derived.Test.YtdhaedjmlddjcaaRefK
namespace Go.Num
open Go Go.Prm Go.Crv
theorem bstr_toList (f : Nat → Nat) (m : Nat) : (bstr f m).toList = btext f m := Go.ByteArray.toList_mk _
theorem btext_inj {f g : Nat → Nat} {m : Nat} (hf : ∀ j, f j < 256) (hg : ∀ j, g j < 256) (h : btext f m = btext g m) (j : Nat) (hj : j < m) : f j = g j := by
  have h1 : (btext f m)[j]? = (btext g m)[j]? := by rw [h]
  unfold btext at h1
  simp only [List.getElem?_map, List.getElem?_range hj, Option.map_some, Option.some.injEq] at h1
  have h2 := congrArg UInt8.toNat h1
  rw [UInt8.toNat_ofNat', UInt8.toNat_ofNat', Nat.mod_eq_of_lt (hf j), Nat.mod_eq_of_lt (hg j)] at h2
  exact h2
theorem btext_eq {f g : Nat → Nat} {m : Nat} (h : ∀ j, j < m → f j = g j) : btext f m = btext g m := by
  unfold btext
  apply List.map_congr_left
  intro j hj
  rw [h j (by simpa using hj)]
theorem numOf_congr {f g : Nat → Nat} : ∀ m, (∀ j, j < m → f j = g j) → numOf f m = numOf g m
  | 0, _ => rfl
  | m + 1, h => by simp only [numOf]; rw [numOf_congr m (fun j hj => h j (by omega)), h m (by omega)]
theorem byteAt_numOf (f : Nat → Nat) (hf : ∀ j, f j < 256) : ∀ (m j : Nat), j < m → byteAt (numOf f m) j = f j
  | 0, j, h => by omega
  | m + 1, j, h => by
    have hl := numOf_lt f hf m
    unfold byteAt
    simp only [numOf]
    rcases Nat.lt_or_ge j m with hj | hj
    · have ih := byteAt_numOf f hf m j hj
      unfold byteAt at ih
      rw [show 256 ^ m = 256 ^ j * (256 * 256 ^ (m - j - 1)) by rw [← Nat.pow_succ', ← Nat.pow_add]; congr 1; omega, show f m * (256 ^ j * (256 * 256 ^ (m - j - 1))) = 256 ^ j * (256 * (f m * 256 ^ (m - j - 1))) by ac_rfl, Nat.add_mul_div_left _ _ (Nat.pow_pos (by decide)), Nat.add_mul_mod_self_left]
      exact ih
    · obtain rfl : j = m := by omega
      rw [Nat.mul_comm, Nat.add_mul_div_left _ _ (Nat.pow_pos (by decide)), Nat.div_eq_of_lt hl, Nat.zero_add, Nat.mod_eq_of_lt (hf j)]
theorem p31 : 256 ^ 31 = 452312848583266388373324160190187140051835877600158453279131187530910662656 := by decide +kernel
end Go.Num
namespace Go.Proofs.Ytdhaedjmlddjcaa
open Go.Num Go.Prm Go.Crv
theorem numOf_g (f : Nat → Nat) (hf : ∀ j, f j < 256) : numOf (gAt f) 32 = low (numOf f 32) ∧ top (numOf f 32) = f 31 / 128 := by
  have h1 : numOf (gAt f) 31 = numOf f 31 := numOf_congr 31 fun j hj => by unfold gAt; rw [if_neg (by omega)]
  have h2 : numOf (gAt f) 32 = numOf (gAt f) 31 + gAt f 31 * 256 ^ 31 := rfl
  have h3 : numOf f 32 = numOf f 31 + f 31 * 256 ^ 31 := rfl
  have h4 := numOf_lt f hf 31
  have h5 := hf 31
  have h6 : gAt f 31 = f 31 % 128 := by unfold gAt; rw [if_pos rfl]
  rw [h2, h3, h1, h6]
  rw [p31] at h4 ⊢
  clear h1 h2 h3 h6
  unfold low top
  generalize numOf f 31 = A at *
  generalize f 31 = B at *
  omega
theorem fromN_eq (f : Nat → Nat) (hf : ∀ j, f j < 256) : fromN f = rfY f := (numOf_g f hf).1
theorem rfOdd_eq (f : Nat → Nat) (hf : ∀ j, f j < 256) : rfOdd f = decide (128 ≤ f 31) := by
  unfold rfOdd
  rw [(numOf_g f hf).2]
  have := hf 31
  exact decide_eq_decide.2 (by omega)
theorem fromOkY_eq (f : Nat → Nat) (hf : ∀ j, f j < 256) : fromOkY f = rfLt f := by
  unfold fromOkY rfLt
  rw [norm_lt_iff, fromN_eq f hf]
theorem eqN_true {a b : Nat} : eqN a b = true ↔ a = b := by unfold eqN; exact decide_eq_true_iff
/-- Of a root: its square, and that it is even. -/
theorem root_sq {a : Nat} (h : rootOk a = true) : fe (rootN a) * fe (rootN a) = fe a := by
  have h1 := eqN_true.1 h
  have h2 : fe (rootB a) * fe (rootB a) = fe a := by rw [← fe_mul, h1, fe_norm]
  unfold rootN
  rw [h, if_pos rfl]
  split
  · rw [fe_sub, fe_zero]; grind
  · exact h2
theorem rootB_lt (a : Nat) : rootB a < p := by
  unfold rootB
  split
  · exact powF_lt _ _
  · exact fmul_lt _ _
theorem neg_val {b : Nat} (h : b < p) (h0 : b ≠ 0) : fsub 0 b = p - b := by
  unfold fsub
  rw [Nat.mod_eq_of_lt h, Nat.zero_add, Nat.mod_eq_of_lt (by omega)]
theorem p_odd : p % 2 = 1 := by decide +kernel
theorem root_even (a : Nat) : rootN a % 2 = 0 := by
  have hB := rootB_lt a
  unfold rootN
  split
  · split
    · rename_i h
      rw [neg_val hB (by omega)]
      have := p_odd
      omega
    · omega
  · rfl
/-- Below the fraction is never 0. -/
theorem below_gen {n : Nat} [NeZero n] {d : Fin n} {iv : Fin n → Fin n} {i : Fin n} (G : Crv.Good d iv i) (y : Fin n) : d * (y * y) + 1 ≠ 0 := by
  intro h
  have h1 : i * i = d * (y * y) := by rw [G.root]; grind
  have h2 := G.sq _ _ h1
  rw [h2] at h
  exact G.one (by grind)
theorem fe_neg (b : Nat) : fe (fsub 0 b) = 0 - fe b := by rw [fe_sub, fe_zero]
theorem fe_neg_sq (b : Nat) : fe (fsub 0 b) * fe (fsub 0 b) = fe b * fe b := by rw [fe_sub, fe_zero]; grind
theorem neg_sq {n : Nat} [NeZero n] (x : Fin n) : (0 - x) * (0 - x) = x * x := by grind
theorem across_alg {n : Nat} [NeZero n] {d x y v : Fin n} (hi : (d * (y * y) + 1) * v = 1) (hX : x * x = (y * y - 1) * v) : y * y - x * x = 1 + d * (x * x * (y * y)) := by
  grind
theorem below_nz (y : Fin p) : fe dd * (y * y) + 1 ≠ 0 := below_gen good y
theorem across_eq {X Y : Nat} (hX : fe X * fe X = fe (acrossA Y)) : On (fe dd) (fe X) (fe Y) := by
  have hb := below_nz (fe Y)
  have hi := good.inv _ hb
  unfold acrossA at hX
  rw [fe_mul, fe_finv _ (fadd_lt _ _)] at hX
  simp only [fe_sub, fe_add, fe_mul, fe_one] at hX
  exact across_alg hi hX
/-- The program's test of the equation. -/
theorem onB_eq {X Y : Nat} (hX : X < p) (hY : Y < p) : onB X Y = true ↔ On (fe dd) (fe X) (fe Y) := by
  unfold onB
  rw [norm_lt_iff, norm_lt_iff, decide_eq_true hX, decide_eq_true hY, Bool.true_and, Bool.true_and, eqN_true]
  have h1 : fe (curveL X Y) = fe Y * fe Y - fe X * fe X := by unfold curveL; rw [fe_sub, fe_mul, fe_mul]
  have h2 : fe (curveR X Y) = 1 + fe dd * (fe X * fe X * (fe Y * fe Y)) := by unfold curveR; rw [fe_add, fe_mul, fe_mul, fe_mul, fe_mul, fe_one]
  unfold On
  rw [← h1, ← h2]
  exact ⟨fun h => by rw [h], fun h => fe_inj (fsub_lt _ _) (fadd_lt _ _) h⟩
theorem byteAt31_lt {n : Nat} (h : n < p) : byteAt n 31 < 128 := by
  have h1 : p < 57896044618658097711785492504343953926634992332820282019728792003956564819968 := by decide
  unfold byteAt
  rw [p31]
  omega
theorem pbyte_lt' (x y j : Nat) : pbyte x y j < 256 := by
  unfold pbyte
  have h1 := byteAt_lt (fnorm y) 31
  have h2 := byteAt_lt (fnorm y) j
  split
  · split
    · exact Nat.or_lt_two_pow (n := 8) h1 (by decide)
    · exact h2
  · exact h2
theorem pbyte_31 (X Y : Nat) (hY : Y < p) : pbyte X Y 31 = byteAt Y 31 + X % 2 * 128 := by
  have h := byteAt31_lt hY
  unfold pbyte
  rw [show fnorm Y = Y from Nat.mod_eq_of_lt hY, if_pos rfl]
  rcases (show X % 2 = 0 ∨ X % 2 = 1 by omega) with h0 | h0
  · rw [h0, if_neg (by decide)]; omega
  · have h1 := Nat.two_pow_add_eq_or_of_lt (i := 7) h 1
    have h2 : byteAt Y 31 ||| 128 = 128 + byteAt Y 31 := by rw [Nat.or_comm]; exact h1.symm
    rw [h0, if_pos rfl, h2]
    omega
theorem pbyte_low (X Y j : Nat) (hY : Y < p) (hj : j ≠ 31) : pbyte X Y j = byteAt Y j := by
  unfold pbyte
  rw [show fnorm Y = Y from Nat.mod_eq_of_lt hY, if_neg hj]
  split <;> rfl
/-- The bytes of a point are those of the text, but for X's bit. -/
theorem same_eq (f : Nat → Nat) (hf : ∀ j, f j < 256) (X Y : Nat) (hY : Y < p) (h : Y = numOf (gAt f) 32) : ((bstr (pbyte X Y) 32).toList == (bstr f 32).toList) = decide (X % 2 = f 31 / 128) := by
  rw [bstr_toList, bstr_toList, Bool.eq_iff_iff, beq_iff_eq, decide_eq_true_iff]
  have hb : ∀ j, j < 32 → byteAt Y j = gAt f j := fun j hj => by rw [h]; exact byteAt_numOf _ (gAt_lt f hf) 32 j hj
  have h31 : byteAt Y 31 = f 31 % 128 := by rw [hb 31 (by omega)]; unfold gAt; rw [if_pos rfl]
  have hx := pbyte_31 X Y hY
  constructor
  · intro h2
    have h3 := btext_inj (fun j => pbyte_lt' X Y j) hf h2 31 (by omega)
    omega
  · intro h2
    apply btext_eq
    intro j hj
    by_cases hj31 : j = 31
    · subst hj31; omega
    · rw [pbyte_low X Y j hY hj31, hb j hj]
      unfold gAt
      rw [if_neg hj31]
theorem last_bit {X b : Nat} (hX : X < p) (hev : X % 2 = 0) (hb : b < 256) : decide ((if decide (128 ≤ b) = true then fsub 0 X else X) % 2 = b / 128) = !(decide (128 ≤ b) && decide (X = 0)) := by
  by_cases ho : 128 ≤ b
  · have h1 : b / 128 = 1 := by omega
    rw [decide_eq_true ho, if_pos rfl, h1, Bool.true_and]
    by_cases h0 : X = 0
    · have hz0 : fsub 0 0 % 2 = 0 := by decide +kernel
      rw [h0, hz0]; rfl
    · have h2 : fsub 0 X % 2 = 1 := by rw [neg_val hX h0]; have := p_odd; omega
      rw [h2, decide_eq_false h0]; rfl
  · have h1 : b / 128 = 0 := by omega
    rw [decide_eq_false ho, if_neg (by decide), h1, hev]; rfl
theorem sp_lt (f : Nat → Nat) (hl : rfLt f = true) : rfY f < p := by unfold rfLt at hl; exact of_decide_eq_true hl
theorem sp_y (f : Nat → Nat) (hf : ∀ j, f j < 256) (hl : rfLt f = true) : fromY f = rfY f := by
  unfold fromY
  rw [fromOkY_eq f hf, hl, if_pos rfl, fromN_eq f hf]
theorem sp_x0 (f : Nat → Nat) (hf : ∀ j, f j < 256) (hl : rfLt f = true) : fromX0 f = rfX0 f := by
  unfold fromX0 rfX0
  rw [sp_y f hf hl]
theorem sp_x (f : Nat → Nat) (hf : ∀ j, f j < 256) (hl : rfLt f = true) : fromX f = rfX f := by
  unfold fromX rfX
  rw [sp_x0 f hf hl, rfOdd_eq f hf]
  by_cases h : 128 ≤ f 31
  · rw [if_pos h, decide_eq_true h, if_pos rfl]
  · rw [if_neg h, decide_eq_false h, if_neg Bool.false_ne_true]
theorem sp_on (f : Nat → Nat) (hf : ∀ j, f j < 256) (hl : rfLt f = true) (hr : rfRt f = true) : onB (rfX f) (rfY f) = true := by
  have hXp : rfX f < p := by rw [← sp_x f hf hl]; exact fromX_lt f
  have hsq : fe (rfX0 f) * fe (rfX0 f) = fe (acrossA (rfY f)) := by unfold rfX0; unfold rfRt at hr; exact root_sq hr
  have hXsq : fe (rfX f) * fe (rfX f) = fe (acrossA (rfY f)) := by
    unfold rfX
    split
    · exact (fe_neg_sq (rfX0 f)).trans hsq
    · exact hsq
  exact (onB_eq hXp (sp_lt f hl)).2 (across_eq hXsq)
theorem sp_same (f : Nat → Nat) (hf : ∀ j, f j < 256) (hl : rfLt f = true) : fromSame f = !(rfOdd f && rfZ f) := by
  have hg : rfY f = numOf (gAt f) 32 := by rw [← fromN_eq f hf]; unfold fromN; rfl
  have hev : rfX0 f % 2 = 0 := by unfold rfX0; exact root_even _
  have hX0p : rfX0 f < p := by unfold rfX0; exact rootN_lt _
  unfold fromSame
  rw [sp_x f hf hl, sp_y f hf hl, same_eq f hf _ _ (sp_lt f hl) hg]
  unfold rfX rfZ eqN
  rw [rfOdd_eq f hf]
  exact last_bit hX0p hev (hf 31)
theorem spot_same (f : Nat → Nat) (hf : ∀ j, f j < 256) : fromOk f = rfOk f ∧ (rfOk f = true → fromX f = rfX f ∧ fromY f = rfY f) := by
  unfold fromOk rfOk
  rw [fromOkY_eq f hf]
  cases hl : rfLt f with
  | false =>
    rw [Bool.false_and, Bool.false_and]
    exact ⟨rfl, fun h => absurd h Bool.false_ne_true⟩
  | true =>
    refine ⟨?_, fun _ => ⟨sp_x f hf hl, sp_y f hf hl⟩⟩
    rw [sp_x f hf hl, sp_y f hf hl, sp_same f hf hl, Bool.true_and, Bool.true_and]
    cases hr : rfRt f with
    | false =>
      unfold rfRt at hr
      rw [hr, Bool.false_and, Bool.false_and]
    | true =>
      rw [sp_on f hf hl hr]
      unfold rfRt at hr
      rw [hr, Bool.true_and, Bool.true_and]
end Go.Proofs.Ytdhaedjmlddjcaa
