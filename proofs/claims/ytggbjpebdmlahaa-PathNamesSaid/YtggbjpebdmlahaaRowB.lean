/- Rows of bytes behind a conversion: the bytes, then noughts. Plain lemmas, no conditions. -/
import Derived.Test.YtggbjpebdmlahaaByteNum
import Derived.Laws.IdiomStrings
namespace Go.Num
open Go Go.RowKit

def brow (f : Nat → Nat) (m z : Nat) : Array Value := bcells f m ++ Array.replicate z (.int .u8 0)
theorem brow_get (f : Nat → Nat) {m z j : Nat} (h : j < m) : (brow f m z)[j]? = some (.int .u8 (f j)) := by
  unfold brow
  rw [Array.getElem?_append_left (by rw [bcells_size]; exact h), bcells_get f h]
theorem brow_set (f : Nat → Nat) {m z k v : Nat} (hk : k < m) : (brow f m z).setIfInBounds k (.int .u8 v) = brow (fun j => if j = k then v else f j) m z := by
  unfold brow
  rw [Array.setIfInBounds_append_left (by rw [bcells_size]; exact hk), bcells_set]
theorem brow_at {w : World} {b : Nat} {f : Nat → Nat} {m z : Nat} {t : TypeId} {y : Nat × Nat} (h : w.heap[b]? = some (.cells (brow f m z) t y)) (o : Nat) (ho : o < m) : w.cell? ⟨b, o, none⟩ = some (.int .u8 (f o)) := by
  rw [cell_of h, brow_get f ho]
theorem bstr_size (f : Nat → Nat) (m : Nat) : (bstr f m).size = m := by
  show (btext f m).toArray.size = m
  simp [btext]
theorem run_brow {P : Program} {w : World} {b m c z src e dst : Nat} {f : Nat → Nat} {t : TypeId} {y : Nat × Nat} (h : w.heap[b]? = some (.cells (brow f m z) t y)) (hs : P.underlying src = some (.slice e)) (he : P.underlying e = some (.int .u8)) (hd : P.underlying dst = some .string) :
    (convert src dst (.slice (some ⟨b, 0, none⟩) m c)).run P w = .ok (.string (bstr f m)) w := by
  rw [run_convert_bytes_arg w src e hs he b 0 m c ((List.range m).map fun j => (f j : Int)) (by simp) (fun i hi => by
    rw [Nat.zero_add, brow_at h i hi]
    simp [List.getD, hi]) dst hd]
  congr 2
  unfold strOfNums bstr btext
  congr 1
  simp
theorem bytesRow_bstr (f : Nat → Nat) (m c : Nat) (hf : ∀ j, f j < 256) : bytesRow (bstr f m) c = brow f m (c - m) := by
  unfold bytesRow brow
  rw [bstr_size]
  congr 1
  unfold bstr btext bcells
  simp only [List.map_toArray, List.map_map]
  congr 1
  apply List.map_congr_left
  intro j _
  have := hf j
  simp only [Function.comp]
  rw [UInt8.toNat_ofNat']
  rw [Nat.mod_eq_of_lt (by exact hf j)]
theorem run_bytes_bstr {P : Program} (w : World) (src dst e m : Nat) (f : Nat → Nat) (hf : ∀ j, f j < 256) (hs : P.underlying src = some .string) (hd : P.underlying dst = some (.slice e)) (he : P.underlying e = some (.int .u8)) :
    ∃ c s y, (s, s + 1) = y ∧ m ≤ s ∧ (convert src dst (.string (bstr f m))).run P w = .ok (.slice (some ⟨w.heap.size, 0, none⟩) m (c : Nat)) (w.drew.alloc (.cells (brow f m (c - m)) e y)) := by
  have := run_bytes_of_string w src dst e (bstr f m) hs hd he
  rw [bytesRow_bstr f m _ hf, bstr_size] at this
  refine ⟨_, _, _, rfl, ?_, this⟩
  simp [brow, bcells_size]
theorem run_bytes_new {P : Program} (w : World) (src dst e m : Nat) (f : Nat → Nat) (hf : ∀ j, f j < 256) (hs : P.underlying src = some .string) (hd : P.underlying dst = some (.slice e)) (he : P.underlying e = some (.int .u8)) :
    ∃ (c s : Nat) (y : Nat × Nat) (w2 : World), (s, s + 1) = y ∧ m ≤ s ∧ (convert src dst (.string (bstr f m))).run P w = .ok (.slice (some ⟨w.heap.size, 0, none⟩) m c) w2 ∧ w2.heap[w.heap.size]? = some (.cells (brow f m (c - m)) e y) ∧ Below w.heap.size w w2 := by
  obtain ⟨c, s, y, h1, h2, h3⟩ := run_bytes_bstr w src dst e m f hf hs hd he
  exact ⟨c, s, y, _, h1, h2, h3, hp_new _ rfl, (Below.refl w.heap.size w).drew.alloc (Nat.le_refl _) _⟩
theorem frozen_row {w : World} {b : Nat} {c : Array Value} {t : TypeId} {s : Nat} {y : Nat × Nat} (hy : (s, s + 1) = y) (h : w.heap[b]? = some (.cells c t y)) (o : Nat) (ho : o < s) : w.frozen? ⟨b, o, none⟩ = false := by
  subst hy
  simp [World.frozen?, h]
  omega
end Go.Num
