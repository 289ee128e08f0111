/- slices.Reverse of bytes: what each call comes to. No conditions beyond the size. -/
import Derived.Test.YtggbjpebdmlahaaPathG
import Derived.Handy
namespace Go.Num
open Go Go.RowKit
/-- The bytes of which k at either end have changed places. -/
def revN (f : Nat → Nat) (n k j : Nat) : Nat := if j < k ∨ n - k ≤ j then f (n - 1 - j) else f j
theorem revN_step (f : Nat → Nat) (n k j : Nat) (h : 2 * k + 1 < n) (hj : j < n) :
    (if j = n - 1 - k then f k else if j = k then f (n - 1 - k) else revN f n k j) = revN f n (k + 1) j := by
  unfold revN
  by_cases h1 : j = n - 1 - k
  · rw [if_pos h1, if_pos (by omega)]; congr 1; omega
  · rw [if_neg h1]
    by_cases h2 : j = k
    · rw [if_pos h2, if_pos (by omega)]; congr 1; omega
    · rw [if_neg h2]
      by_cases h3 : j < k ∨ n - k ≤ j
      · rw [if_pos h3, if_pos (by omega)]
      · rw [if_neg h3, if_neg (by omega)]
theorem revN_end (f : Nat → Nat) (n k j : Nat) (h : n ≤ 2 * k + 1) (hj : j < n) : revN f n k j = f (n - 1 - j) := by
  unfold revN
  by_cases h3 : j < k ∨ n - k ≤ j
  · rw [if_pos h3]
  · rw [if_neg h3]; congr 1; omega
end Go.Num
namespace Go.Proofs.Ytggbjpebdmlahaa
open Go.RowKit Go.Mono Go.Num
set_option maxRecDepth 8000 in
set_option maxHeartbeats 400000 in
theorem reverse_any (f : Nat → Nat) (n b c z : Nat) (y : Nat × Nat) (w : World) (hn : n < 100000) (hy : ∃ s, (s, s + 1) = y ∧ n ≤ s) (h : w.heap[b]? = some (.cells (brow f n z) 5 y)) :
    Calls Try.prog 50 #[.slice (some ⟨b, 0, none⟩) n c] w fun e w' => e = .returned (.tuple #[]) ∧ Below b w w' ∧ w'.heap[b]? = some (.cells (brow (fun j => f (n - 1 - j)) n z) 5 y) := by
  go_enter Try.func50, Try.ntmps50
  go_wp2_with fail
  obtain ⟨s, hy, hs⟩ := hy
  go_loopw [2, 3] (fun i j wr => ∃ k : Nat, 2 * k ≤ n ∧ i = .int .i64 k ∧ j = .int .i64 ((n : Int) - 1 - k) ∧ wr.heap[b]? = some (.cells (brow (revN f n k) n z) 5 y) ∧ Below b w wr) (fun i _ _ => n - (intOf i).toNat)
  case atStart => exact ⟨0, by omega, rfl, by simp, by rw [show brow (revN f n 0) n z = brow f n z from by unfold brow; congr 1; exact bcells_congr (fun j hj => by unfold revN; rw [if_neg (by omega)])]; exact h, Below.refl _ _⟩
  case round =>
    clear h
    obtain ⟨k, hk, rfl, rfl, h, hw⟩ := hrel
    by_cases hlt : 2 * k + 1 < n
    · have h1 : (k : Int) < (n : Int) - 1 - k := by omega
      have c1 := brow_at h k (by omega)
      have c2 := brow_at h (n - 1 - k) (by omega)
      have z1 := frozen_row hy h k (by omega)
      have z2 := frozen_row hy h (n - 1 - k) (by omega)
      have hA := hp_set (o := k) (v := .int .u8 ((revN f n k (n - 1 - k) : Nat) : Int)) (show wr.drew.heap[b]? = _ from h)
      have z3 := frozen_row hy hA (n - 1 - k) (by
        omega)
      have hB := hp_set (o := n - 1 - k) (v := .int .u8 ((revN f n k k : Nat) : Int)) hA
      have hwB := (hw.drew.setCell (p := ⟨b, k, none⟩) (by simp) (.int .u8 ((revN f n k (n - 1 - k) : Nat) : Int))).setCell (p := ⟨b, n - 1 - k, none⟩) (by simp) (.int .u8 ((revN f n k k : Nat) : Int))
      have hq : (n : Int) - 1 - k = ((n - 1 - k : Nat) : Int) := by omega
      rw [hq]
      have h2 : ((n - 1 - k : Nat) : Int) < (n : Int) := by omega
      rw [hq] at h1
      have hC : ((brow (revN f n k) n z).setIfInBounds k (.int .u8 ((revN f n k (n - 1 - k) : Nat) : Int))).setIfInBounds (n - 1 - k) (.int .u8 ((revN f n k k : Nat) : Int)) = brow (revN f n (k + 1)) n z := by
        rw [brow_set _ (by omega), brow_set _ (by omega)]
        unfold brow
        congr 1
        apply bcells_congr
        intro j hj
        rw [← revN_step f n k j hlt hj]
        have e1 : revN f n k k = f k := by unfold revN; rw [if_neg (by omega)]
        have e2 : revN f n k (n - 1 - k) = f (n - 1 - k) := by unfold revN; rw [if_neg (by omega)]
        rw [e1, e2]
      rw [hC] at hB
      clear hC
      have hq2 : ((n - 1 - k : Nat) : Int) - 1 = (n : Int) - 1 - ((k + 1 : Nat) : Int) := by omega
      generalize hQ : n - 1 - k = q at *
      go_wp2_with fail
      go_region
      go_wp2_with fail
      go_roundw
      case rel => exact ⟨k + 1, by omega, by go_num, by congr 1 <;> omega, hB, hwB⟩
      case measure => simp [intOf]; omega
    · have h1 : ¬ (k : Int) < (n : Int) - 1 - k := by omega
      rw [show brow (revN f n k) n z = brow (fun j => f (n - 1 - j)) n z from by unfold brow; congr 1; exact bcells_congr (fun j hj => revN_end f n k j (by omega) hj)] at h
      go_wp2_with fail
      refine bodyPost_end (results_none rfl _ _ _) rfl ?_
      exact ⟨rfl, hw, h⟩
end Go.Proofs.Ytggbjpebdmlahaa
