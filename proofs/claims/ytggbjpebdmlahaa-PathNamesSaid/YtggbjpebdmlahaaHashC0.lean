/- A state's numbers stored whole; frames behind a round. Plain lemmas, no conditions. -/
import Derived.Test.YtggbjpebdmlahaaHashB
namespace Go.Num
open Go Go.RowKit
theorem setCells_pre {b : Nat} {t : TypeId} {z : Nat × Nat} : ∀ (vs pre old post : List Value) (w : World), old.length = vs.length → w.heap[b]? = some (.cells (pre ++ old ++ post).toArray t z) → (w.setCells b pre.length vs).heap[b]? = some (.cells (pre ++ vs ++ post).toArray t z)
  | [], pre, old, post, w, hl, h => by
    have : old = [] := List.eq_nil_of_length_eq_zero hl
    subst this; exact h
  | v :: vs, pre, [], post, w, hl, h => by simp at hl
  | v :: vs, pre, x :: old, post, w, hl, h => by
    have h1 := hp_set (o := pre.length) (v := v) h
    rw [show (pre ++ x :: old ++ post).toArray.setIfInBounds pre.length v = ((pre ++ [v]) ++ old ++ post).toArray by simp] at h1
    have h2 := setCells_pre vs (pre ++ [v]) old post (w.setCell ⟨b, pre.length, none⟩ v) (by simpa using hl) h1
    rw [show (pre ++ [v]).length = pre.length + 1 by simp, show (pre ++ [v]) ++ vs ++ post = pre ++ v :: vs ++ post by simp] at h2
    exact h2
theorem st_set_h {w : World} {p T n : Nat} {h : Nat → BitVec 32} {v : Value} {z : Nat × Nat} (hp : w.heap[p]? = some (.cells (stCells h v n) T z)) (h' : Nat → BitVec 32) :
    (w.setCells p 0 (wcells h' 8).toList).heap[p]? = some (.cells (stCells h' v n) T z) := by
  have := setCells_pre (wcells h' 8).toList [] (wcells h 8).toList [v, .int .i64 n] w (by simp [kcells_size]) hp
  exact this
theorem st_there {w : World} {p T n : Nat} {h : Nat → BitVec 32} {v : Value} (hp : w.heap[p]? = some (.cells (stCells h v n) T)) : w.there p 0 8 := fun j hj => by
  rw [Nat.zero_add, cell_of hp, frozen_of hp]
  refine ⟨?_, rfl⟩
  have : j < (stCells h v n).size := by show j < 10; omega
  rw [Array.getElem?_eq_getElem this]; rfl
theorem setCells_fr {p : Nat} : ∀ (vs : List Value) (o : Nat) (w : World), Fr (fun k => k = p) w (w.setCells p o vs)
  | [], _, w => Fr.refl _ w
  | v :: vs, o, w => by
    have h1 : Fr (fun k => k = p) w (w.setCell ⟨p, o, none⟩ v) := (Fr.refl _ w).setCell (X := fun k => k = p) rfl v
    exact h1.trans (setCells_fr vs (o + 1) _)
theorem Fr.putObj_new {X : Nat → Prop} {a w : World} (h : Fr X a w) {l : Nat} (hl : a.heap.size ≤ l) (o : Obj) : Fr X a (w.putObj l o) :=
  ⟨h.os, h.tape, h.output, by have := h.size; simpa [World.putObj] using this, fun k hk hx => (World.putObj_heap_other (by omega)).trans (h.block k hk hx)⟩
section
variable {w : World} {p T n : Nat} {h : Nat → BitVec 32} {v : Value} {z : Nat × Nat}
theorem st_h0 (hp : w.heap[p]? = some (.cells (stCells h v n) T z)) : w.cell? ⟨p, 0, none⟩ = some (.int .u32 (nv (h 0))) := cell_of hp 0
theorem st_h1 (hp : w.heap[p]? = some (.cells (stCells h v n) T z)) : w.cell? ⟨p, 1, none⟩ = some (.int .u32 (nv (h 1))) := cell_of hp 1
theorem st_h2 (hp : w.heap[p]? = some (.cells (stCells h v n) T z)) : w.cell? ⟨p, 2, none⟩ = some (.int .u32 (nv (h 2))) := cell_of hp 2
theorem st_h3 (hp : w.heap[p]? = some (.cells (stCells h v n) T z)) : w.cell? ⟨p, 3, none⟩ = some (.int .u32 (nv (h 3))) := cell_of hp 3
theorem st_h4 (hp : w.heap[p]? = some (.cells (stCells h v n) T z)) : w.cell? ⟨p, 4, none⟩ = some (.int .u32 (nv (h 4))) := cell_of hp 4
theorem st_h5 (hp : w.heap[p]? = some (.cells (stCells h v n) T z)) : w.cell? ⟨p, 5, none⟩ = some (.int .u32 (nv (h 5))) := cell_of hp 5
theorem st_h6 (hp : w.heap[p]? = some (.cells (stCells h v n) T z)) : w.cell? ⟨p, 6, none⟩ = some (.int .u32 (nv (h 6))) := cell_of hp 6
theorem st_h7 (hp : w.heap[p]? = some (.cells (stCells h v n) T z)) : w.cell? ⟨p, 7, none⟩ = some (.int .u32 (nv (h 7))) := cell_of hp 7
end
end Go.Num
