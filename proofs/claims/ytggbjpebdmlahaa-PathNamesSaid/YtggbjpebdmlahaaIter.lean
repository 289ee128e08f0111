/- The bits of a number, the highest first, as the iterators hand them out: plain lemmas, no conditions. -/
import Derived.Test.YtggbjpebdmlahaaNorm
import Derived.RangeFuncNested
import Derived.RangeFuncBound
import Derived.RangeFuncCalls
import Derived.RangeFuncLeaves
import Derived.Shelf.Abstract
import Derived.Shelf.RegionOpen
import Derived.OwnWalkIn
import Derived.TacticsInMore
import Derived.LoopNIn
import Derived.LoopIn
namespace Go.Num
open Go Go.RowKit

theorem hp_kept {W W' : World} {row : Option Nat} {b : Nat} {c : Array Value} {t : TypeId} {z : Nat × Nat} (h : W.heap[b]? = some (.cells c t z)) (hg : W.grownBy W' row)
    (hr : ∀ r, row = some r → ∃ o : Obj, W.heap[r]? = some o ∧ o.isCells = false) : W'.heap[b]? = some (.cells c t z) := by
  rw [hg.block b (Array.getElem?_eq_some_iff.1 h).1 (fun e => by
    obtain ⟨o, ho, hc⟩ := hr b e.symm
    rw [h] at ho; cases ho; cases hc)]
  exact h
/-- The bits from 255 down to m. -/
def hiBits (n m : Nat) : List Bool := (List.range (256 - m)).map fun j => n.testBit (255 - j)
theorem hiBits_start (n : Nat) : hiBits n 256 = [] := rfl
theorem hiBits_step (n i : Nat) (hi : i < 256) : hiBits n i = hiBits n (i + 1) ++ [n.testBit i] := by
  unfold hiBits
  rw [show 256 - i = (256 - (i + 1)) + 1 by omega, List.range_succ, List.map_append, List.map_singleton, show 255 - (256 - (i + 1)) = i by omega]
theorem hiBits_length (n m : Nat) : (hiBits n m).length = 256 - m := by simp [hiBits]
/-- What a round keeps: one block. -/
def KeepB (nb : Nat) (w w' : World) : Prop := ∀ o, w.heap[nb]? = some o → w'.heap[nb]? = some o
theorem keepB_t {nb : Nat} {A B C : World} (h : KeepB nb A B) (k : KeepB nb B C) : KeepB nb A C := fun o ho => k o (h o ho)
theorem keepB_b {nb : Nat} {w : World} (hn : nb < w.heap.size) (W : World) (l : Nat) (o o' : Obj) (hl : w.heap.size ≤ l) (_ : W.heap[l]? = some o) (_ : o.isCells = false) (_ : o.isWalk = false) : KeepB nb W (W.putObj l o') :=
  fun _ hx => (World.putObj_heap_other (by omega)).trans hx
theorem keepsOthers_of_below {W W' : World} (h : Below W.heap.size W W') : KeepsOthers W W' :=
  ⟨h.size, fun k _ hk _ => (h.block k (Array.getElem?_eq_some_iff.1 hk).1).trans hk⟩
theorem keepB_of_below {nb : Nat} {W W' : World} (h : Below W.heap.size W W') : KeepB nb W W' := fun _ ho => (h.block nb (Array.getElem?_eq_some_iff.1 ho).1).trans ho
theorem keepB_set {nb b o : Nat} {v : Value} {W : World} (h : nb ≠ b) : KeepB nb W (W.setCell ⟨b, o, none⟩ v) := fun _ hx => hp_set_ne hx h
theorem st4_keeps (X : World) (b n : Nat) : KeepsOthers X (st4 X b n) :=
  (((KeepsOthers.setCell _ _ _).trans (KeepsOthers.setCell _ _ _)).trans (KeepsOthers.setCell _ _ _)).trans (KeepsOthers.setCell _ _ _)
theorem KeepB.st4 {nb b n : Nat} {X X' : World} (h : KeepB nb X X') (hne : nb ≠ b) : KeepB nb X (st4 X' b n) := fun o ho => st4_other (h o ho) hne
theorem bit_pos (x r : Nat) : decide (0 < x / 2 ^ r % 2) = x.testBit r := by
  rw [Nat.testBit_eq_decide_div_mod_eq]
  rcases (show x / 2 ^ r % 2 = 0 ∨ x / 2 ^ r % 2 = 1 by omega) with h | h <;> simp [h]
theorem bit_word (n i : Nat) : decide (0 < wd n (i / 64) / 2 ^ (i % 64) % 2) = n.testBit i := by
  rw [bit_pos]
  have hW : W = 2 ^ 64 := rfl
  unfold wd
  rw [hW, ← Nat.pow_mul, Nat.testBit_mod_two_pow, Nat.testBit_div_two_pow, show i % 64 + 64 * (i / 64) = i by omega]
  simp [show i % 64 < 64 by omega]
theorem and1 (x : Nat) (h : x < 18446744073709551616) : bits .and .u64 (x : Int) 1 = ((x % 2 : Nat) : Int) := by
  have := u64_and_nat x 1 h (by decide)
  rw [show ((1 : Nat) : Int) = 1 from rfl] at this
  rw [this]; congr 1; exact Nat.and_two_pow_sub_one_eq_mod x 1
/-- The test of a bit, as the walk spells it. -/
theorem bit_walk (n i : Nat) : decide (0 < bits .and .u64 ((wd n (i / 64) : Int) / 2 ^ (i % 64)) 1) = n.testBit i := by
  have h1 : ((wd n (i / 64) : Int) / 2 ^ (i % 64)) = ((wd n (i / 64) / 2 ^ (i % 64) : Nat) : Int) := by rw [Int.natCast_ediv, Int.natCast_pow]; rfl
  rw [h1, and1 _ (Nat.lt_of_le_of_lt (Nat.div_le_self _ _) (wd_lt _ _)), ← bit_word]
  generalize wd n (i / 64) / 2 ^ (i % 64) % 2 = y
  exact decide_eq_decide.2 (by omega)

/-! ### A power -/
def sqm (a o : Nat) (b : Bool) : Nat := if b then fmul (fmul o o) a else fmul o o
def powF (a n : Nat) : Nat := (hiBits n 0).foldl (sqm a) 1
theorem sqm_lt (a o : Nat) (b : Bool) : sqm a o b < p := by unfold sqm; split <;> exact fmul_lt _ _
theorem foldl_lt (a : Nat) (l : List Bool) : l.foldl (sqm a) 1 < p := by
  rcases List.eq_nil_or_concat l with rfl | ⟨l', b, rfl⟩
  · exact (by decide : 1 < p)
  · rw [List.concat_eq_append, List.foldl_append]; exact sqm_lt _ _ _
theorem powF_lt (a n : Nat) : powF a n < p := foldl_lt a _
end Go.Num
