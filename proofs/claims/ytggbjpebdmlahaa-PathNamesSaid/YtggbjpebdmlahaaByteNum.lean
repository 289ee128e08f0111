/- The bytes of a number, and slices of bytes as the program holds them. Plain lemmas, no conditions. -/
import Derived.Test.YtggbjpebdmlahaaStore
import Derived.Laws.BytesArg
namespace Go.Num
open Go Go.RowKit

/-- Byte j of a number. -/
def byteAt (n j : Nat) : Nat := n / 256 ^ j % 256
theorem byteAt_lt (n j : Nat) : byteAt n j < 256 := Nat.mod_lt _ (by decide)
/-- The cells of m bytes. -/
def bcells (f : Nat → Nat) (m : Nat) : Array Value := ((List.range m).map fun j => Value.int .u8 (f j)).toArray
theorem bcells_size (f : Nat → Nat) (m : Nat) : (bcells f m).size = m := by simp [bcells]
theorem bcells_get (f : Nat → Nat) {m j : Nat} (h : j < m) : (bcells f m)[j]? = some (.int .u8 (f j)) := by
  simp [bcells, h]
theorem bcells_set (f : Nat → Nat) {m k v : Nat} : (bcells f m).setIfInBounds k (.int .u8 v) = bcells (fun j => if j = k then v else f j) m := by
  apply Array.ext_getElem?
  intro j
  by_cases hj : j < m
  · rw [Array.getElem?_setIfInBounds, bcells_get _ hj, bcells_get _ hj, bcells_size]
    by_cases hk : k = j
    · subst hk; simp [hj]
    · simp [hk, Ne.symm hk]
  · rw [Array.getElem?_eq_none (by simp [bcells_size]; omega), Array.getElem?_eq_none (by simp [bcells_size]; omega)]
theorem bcells_congr {f g : Nat → Nat} {m : Nat} (h : ∀ j, j < m → f j = g j) : bcells f m = bcells g m := by
  unfold bcells
  congr 1
  apply List.map_congr_left
  intro j hj
  rw [h j (by simpa using hj)]
theorem bcells_at {w : World} {b : Nat} {f : Nat → Nat} {m : Nat} {t : TypeId} {z : Nat × Nat} (h : w.heap[b]? = some (.cells (bcells f m) t z)) (o : Nat) (ho : o < m) : w.cell? ⟨b, o, none⟩ = some (.int .u8 (f o)) := by
  rw [cell_of h, bcells_get f ho]
/-- The bytes of f, as a text. -/
def btext (f : Nat → Nat) (m : Nat) : List UInt8 := (List.range m).map fun j => UInt8.ofNat (f j)
def bstr (f : Nat → Nat) (m : Nat) : ByteArray := ⟨(btext f m).toArray⟩
theorem run_bstr {P : Program} {w : World} {b m c src e dst : Nat} {f : Nat → Nat} {t : TypeId} {z : Nat × Nat} (h : w.heap[b]? = some (.cells (bcells f m) t z)) (hs : P.underlying src = some (.slice e)) (he : P.underlying e = some (.int .u8)) (hd : P.underlying dst = some .string) :
    (convert src dst (.slice (some ⟨b, 0, none⟩) m c)).run P w = .ok (.string (bstr f m)) w := by
  rw [run_convert_bytes_arg w src e hs he b 0 m c ((List.range m).map fun j => (f j : Int)) (by simp) (fun i hi => by
    rw [Nat.zero_add, bcells_at h i hi]
    simp [List.getD, hi]) dst hd]
  congr 2
  unfold strOfNums bstr btext
  congr 1
  simp
/-- The bytes of a word. -/
theorem byte_word (n k : Nat) (_ : k < 32) : wd n (k / 8) / 2 ^ (k % 8 * 8) % 256 = byteAt n k := by
  unfold wd byteAt
  have h1 : (256 : Nat) = 2 ^ 8 := rfl
  have hW : W = 2 ^ 64 := rfl
  rw [hW, h1, ← Nat.pow_mul, ← Nat.pow_mul]
  have h2 : n / 2 ^ (64 * (k / 8)) % 2 ^ 64 / 2 ^ (k % 8 * 8) % 2 ^ 8 = n / 2 ^ (64 * (k / 8)) / 2 ^ (k % 8 * 8) % 2 ^ 8 := by
    rw [show (2 : Nat) ^ 64 = 2 ^ (k % 8 * 8) * 2 ^ (64 - k % 8 * 8) by rw [← Nat.pow_add]; congr 1; omega, Nat.mod_mul_right_div_self, Nat.mod_mod_of_dvd]
    exact Nat.pow_dvd_pow 2 (by omega)
  rw [h2, Nat.div_div_eq_div_mul, ← Nat.pow_add, show 64 * (k / 8) + k % 8 * 8 = 8 * k by omega]
theorem conv_byte (n k : Nat) (hk : k < 32) : IntKind.u8.wrap ((wd n (k / 8) : Int) / 2 ^ (k % 8 * 8)) = (byteAt n k : Int) := by
  have h1 : ((wd n (k / 8) : Int) / 2 ^ (k % 8 * 8)) = ((wd n (k / 8) / 2 ^ (k % 8 * 8) : Nat) : Int) := by rw [Int.natCast_ediv, Int.natCast_pow]; rfl
  rw [h1, IntKind.wrap_u8, ← byte_word n k hk]; rfl
end Go.Num
