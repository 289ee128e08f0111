/- Words of 32 and of 64 bits as the program holds them: cells of them, and the operators on them. Plain lemmas, no conditions. -/
import Derived.Test.YtggbjpebdmlahaaRowB
import Derived.Laws.BitsAllLaws
import Derived.Laws.ShiftsVarLaws
namespace Go.Num
open Go Go.RowKit
/-- The cells of m numbers of a kind. -/
def kcells (K : IntKind) (g : Nat → Nat) (m : Nat) : Array Value := ((List.range m).map fun j => Value.int K (g j)).toArray
section
variable {K : IntKind}
theorem kcells_size (f : Nat → Nat) (m : Nat) : (kcells K f m).size = m := by simp [kcells]
theorem kcells_get (f : Nat → Nat) {m j : Nat} (h : j < m) : (kcells K f m)[j]? = some (.int K (f j)) := by
  simp [kcells, h]
theorem kcells_set (f : Nat → Nat) {m k v : Nat} : (kcells K f m).setIfInBounds k (.int K v) = kcells K (fun j => if j = k then v else f j) m := by
  apply Array.ext_getElem?
  intro j
  by_cases hj : j < m
  · rw [Array.getElem?_setIfInBounds, kcells_get _ hj, kcells_get _ hj, kcells_size]
    by_cases hk : k = j
    · subst hk; simp [hj]
    · simp [hk, Ne.symm hk]
  · rw [Array.getElem?_eq_none (by simp [kcells_size]; omega), Array.getElem?_eq_none (by simp [kcells_size]; omega)]
theorem kcells_congr {f g : Nat → Nat} {m : Nat} (h : ∀ j, j < m → f j = g j) : kcells K f m = kcells K g m := by
  unfold kcells
  congr 1
  apply List.map_congr_left
  intro j hj
  rw [h j (by simpa using hj)]
theorem kcells_at {w : World} {b : Nat} {f : Nat → Nat} {m : Nat} {t : TypeId} {z : Nat × Nat} (h : w.heap[b]? = some (.cells (kcells K f m) t z)) (o : Nat) (ho : o < m) : w.cell? ⟨b, o, none⟩ = some (.int K (f o)) := by
  rw [cell_of h, kcells_get f ho]
theorem kcells_one (f : Nat → Nat) (m : Nat) : (kcells K f m).all (·.oneCell') = true := by
  rw [Array.all_eq_true]
  intro i hi
  simp [kcells, Value.oneCell']
end
/-- The number of a word of 32 bits. -/
def nv (x : BitVec 32) : Nat := x.toNat
theorem nv_lt (x : BitVec 32) : nv x < 4294967296 := x.isLt
abbrev wcells (g : Nat → BitVec 32) (m : Nat) : Array Value := kcells .u32 (fun j => nv (g j)) m
theorem bv_xor (x y : BitVec 32) : bits .xor .u32 (nv x : Int) (nv y : Int) = (nv (x ^^^ y) : Int) := by
  unfold nv
  rw [u32_xor_nat _ _ x.isLt y.isLt, BitVec.toNat_xor]
theorem bv_and (x y : BitVec 32) : bits .and .u32 (nv x : Int) (nv y : Int) = (nv (x &&& y) : Int) := by
  unfold nv
  rw [u32_and_nat _ _ x.isLt y.isLt, BitVec.toNat_and]
theorem bv_or (x y : BitVec 32) : bits .or .u32 (nv x : Int) (nv y : Int) = (nv (x ||| y) : Int) := by
  unfold nv
  rw [u32_or_nat _ _ x.isLt y.isLt, BitVec.toNat_or]
theorem bv_not (x : BitVec 32) : IntKind.u32.wrap (-(nv x : Int) - 1) = (nv (~~~x) : Int) := by
  unfold nv
  rw [IntKind.wrap_u32', BitVec.toNat_not]
  have := x.isLt
  omega
theorem bv_sgn : (if IntKind.u32.signed = true then (-1 : Int) else IntKind.u32.max) = IntKind.u32.max := if_neg (by decide)
theorem bv_nots (x : BitVec 32) : bits .xor .u32 IntKind.u32.max (nv x : Int) = (nv (~~~x) : Int) := by
  have h := bv_xor (BitVec.allOnes 32) x
  rw [BitVec.allOnes_xor] at h
  exact h
theorem wrap_i64 (n : Int) : IntKind.i64.wrap n = (n + 9223372036854775808) % 18446744073709551616 - 9223372036854775808 := by
  simp [IntKind.wrap, IntKind.bits, IntKind.signed]
  omega
theorem bv_add (x y : BitVec 32) : ((nv x : Int) + (nv y : Int)) % 4294967296 = (nv (x + y) : Int) := by
  unfold nv
  rw [BitVec.toNat_add]
  omega
theorem bv_shl (x : BitVec 32) (m : Nat) : (nv x : Int) * 2 ^ m % 4294967296 = (nv (x <<< m) : Int) := by
  unfold nv
  rw [BitVec.toNat_shiftLeft, Nat.shiftLeft_eq, Int.natCast_emod, Int.natCast_mul, Int.natCast_pow]
  rfl
theorem bv_shr (x : BitVec 32) (m : Nat) : (nv x : Int) / 2 ^ m = (nv (x >>> m) : Int) := by
  unfold nv
  rw [BitVec.toNat_ushiftRight, Nat.shiftRight_eq_div_pow, Int.natCast_ediv, Int.natCast_pow]
  rfl
theorem bv_shl24 (x : BitVec 32) : (nv x : Int) * (16777216 : Int) % (4294967296 : Int) = (nv (x <<< 24) : Int) := by
  have h := bv_shl x 24
  rw [show (2 : Int) ^ 24 = 16777216 from rfl] at h
  exact h
theorem bv_shl16 (x : BitVec 32) : (nv x : Int) * (65536 : Int) % (4294967296 : Int) = (nv (x <<< 16) : Int) := by
  have h := bv_shl x 16
  rw [show (2 : Int) ^ 16 = 65536 from rfl] at h
  exact h
theorem bv_shl8 (x : BitVec 32) : (nv x : Int) * (256 : Int) % (4294967296 : Int) = (nv (x <<< 8) : Int) := by
  have h := bv_shl x 8
  rw [show (2 : Int) ^ 8 = 256 from rfl] at h
  exact h
theorem bv_shr3 (x : BitVec 32) : (nv x : Int) / (8 : Int) = (nv (x >>> 3) : Int) := bv_shr x 3
theorem bv_shr10 (x : BitVec 32) : (nv x : Int) / (1024 : Int) = (nv (x >>> 10) : Int) := bv_shr x 10
theorem bv_wrap (x : BitVec 32) : IntKind.u32.wrap (nv x : Int) = (nv x : Int) := by
  unfold nv
  rw [IntKind.wrap_u32']
  have := x.isLt
  omega
theorem bw_add (x y : BitVec 32) : IntKind.u32.wrap ((nv x : Int) + (nv y : Int)) = (nv (x + y) : Int) := by rw [IntKind.wrap_u32', bv_add]
theorem bw_shl24 (x : BitVec 32) : IntKind.u32.wrap ((nv x : Int) * (16777216 : Int)) = (nv (x <<< 24) : Int) := by rw [IntKind.wrap_u32', bv_shl24]
theorem bw_shl16 (x : BitVec 32) : IntKind.u32.wrap ((nv x : Int) * (65536 : Int)) = (nv (x <<< 16) : Int) := by rw [IntKind.wrap_u32', bv_shl16]
theorem bw_shl8 (x : BitVec 32) : IntKind.u32.wrap ((nv x : Int) * (256 : Int)) = (nv (x <<< 8) : Int) := by rw [IntKind.wrap_u32', bv_shl8]
theorem bv_nat (n : Nat) (h : n < 4294967296) : nv (BitVec.ofNat 32 n) = n := by
  unfold nv
  rw [BitVec.toNat_ofNat]; omega
end Go.Num
