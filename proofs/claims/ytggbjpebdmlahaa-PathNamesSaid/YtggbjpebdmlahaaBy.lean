/- The bytes of a text by their places. Plain lemmas, no conditions. -/
import Derived.Test.YtggbjpebdmlahaaRowB
import Derived.Laws.BitsAllLaws
namespace Go.Num
open Go Go.RowKit
/-- Byte j of a text; 0 behind its end. -/
def byOf (s : ByteArray) (j : Nat) : Nat := if h : j < s.size then (s[j]'h).toNat else 0
theorem byOf_lt (s : ByteArray) (j : Nat) : byOf s j < 256 := by
  unfold byOf
  split
  · exact (s[j]).toNat_lt
  · decide
theorem byOf_out (s : ByteArray) {j : Nat} (h : s.size ≤ j) : byOf s j = 0 := by unfold byOf; rw [dif_neg (by omega)]
theorem byOf_at (s : ByteArray) {j : Nat} (h : j < s.size) : (s[j]'h).toNat = byOf s j := by unfold byOf; rw [dif_pos h]
theorem bstr_byOf (s : ByteArray) : bstr (byOf s) s.size = s := by
  apply ByteArray.ext
  apply Array.ext_getElem?
  intro j
  show ((btext (byOf s) s.size).toArray)[j]? = s.data[j]?
  unfold btext
  by_cases hj : j < s.size
  · have hj2 : j < s.data.size := hj
    simp [hj, byOf]
    rfl
  · have hj2 : ¬ j < s.data.size := hj
    rw [Array.getElem?_eq_none (by simp; omega), Array.getElem?_eq_none (by omega)]
theorem byOf_bstr (f : Nat → Nat) (m j : Nat) (hf : f j < 256) (h : j < m) : byOf (bstr f m) j = f j := by
  rw [← byOf_at _ (by rw [bstr_size]; exact h)]
  show ((btext f m).toArray[j]'_).toNat = f j
  simp [btext]
  omega
theorem bcells_step (f : Nat → Nat) (m k : Nat) : (bcells (fun j => if j < k then f j else 0) m).setIfInBounds k (.int .u8 (f k)) = bcells (fun j => if j < k + 1 then f j else 0) m := by
  rw [bcells_set]
  apply bcells_congr
  intro j _
  by_cases h1 : j = k
  · subst h1; simp
  · by_cases h2 : j < k
    · rw [if_neg h1, if_pos h2, if_pos (by omega)]
    · rw [if_neg h1, if_neg h2, if_neg (by omega)]
theorem below_tr {w w2 w3 : World} (h : Below w.heap.size w w2) (hC : Below w2.drew.heap.size w2.drew w3) : Below w.heap.size w w3 :=
  h.drew.trans (hC.mono (by have := h.size; simp; omega))
theorem below_tr' {w w2 w3 : World} (h : Below w.heap.size w w2) (hC : Below w2.heap.size w2 w3) : Below w.heap.size w w3 :=
  h.trans (hC.mono (by have := h.size; simp; omega))
end Go.Num
