/- slices.Reverse of bytes, whatever lies behind them: what each call comes to. No conditions beyond the size. -/
import Derived.Test.YtggbjpebdmlahaaPathI
namespace Go.Num
open Go Go.RowKit
/-- Bytes, and whatever behind them. -/
def arow (f : Nat → Nat) (m : Nat) (R : Array Value) : Array Value := bcells f m ++ R
theorem arow_get (f : Nat → Nat) {m j : Nat} {R : Array Value} (h : j < m) : (arow f m R)[j]? = some (.int .u8 (f j)) := by
  unfold arow
  rw [Array.getElem?_append_left (by rw [bcells_size]; exact h), bcells_get f h]
theorem arow_set (f : Nat → Nat) {m k v : Nat} {R : Array Value} (hk : k < m) : (arow f m R).setIfInBounds k (.int .u8 v) = arow (fun j => if j = k then v else f j) m R := by
  unfold arow
  rw [Array.setIfInBounds_append_left (by rw [bcells_size]; exact hk), bcells_set]
theorem arow_at {w : World} {b : Nat} {f : Nat → Nat} {m : Nat} {R : Array Value} {t : TypeId} {y : Nat × Nat} (h : w.heap[b]? = some (.cells (arow f m R) t y)) (o : Nat) (ho : o < m) : w.cell? ⟨b, o, none⟩ = some (.int .u8 (f o)) := by
  rw [cell_of h, arow_get f ho]
theorem run_arow {P : Program} {w : World} {b m c src e dst : Nat} {R : Array Value} {f : Nat → Nat} {t : TypeId} {y : Nat × Nat} (h : w.heap[b]? = some (.cells (arow f m R) t y)) (hs : P.underlying src = some (.slice e)) (he : P.underlying e = some (.int .u8)) (hd : P.underlying dst = some .string) :
    (convert src dst (.slice (some ⟨b, 0, none⟩) m c)).run P w = .ok (.string (bstr f m)) w := by
  rw [run_convert_bytes_arg w src e hs he b 0 m c ((List.range m).map fun j => (f j : Int)) (by simp) (fun i hi => by
    rw [Nat.zero_add, arow_at h i hi]
    simp [List.getD, hi]) dst hd]
  congr 2
  unfold strOfNums bstr btext
  congr 1
  simp
theorem brow_arow (f : Nat → Nat) (m z : Nat) : brow f m z = arow f m (Array.replicate z (.int .u8 0)) := rfl
end Go.Num
namespace Go.Proofs.Ytggbjpebdmlahaa
open Go.RowKit Go.Mono Go.Num
set_option maxRecDepth 8000 in
set_option maxHeartbeats 400000 in
theorem reverse_row (f : Nat → Nat) (n b c : Nat) (R : Array Value) (y : Nat × Nat) (w : World) (hn : n < 100000) (hy : ∀ (w' : World) (cs : Array Value) (o : Nat), w'.heap[b]? = some (.cells cs 5 y) → o < n → w'.frozen? ⟨b, o, none⟩ = false) (h : w.heap[b]? = some (.cells (arow f n R) 5 y)) :
    Calls Try.prog 50 #[.slice (some ⟨b, 0, none⟩) n c] w fun e w' => e = .returned (.tuple #[]) ∧ Below b w w' ∧ w'.heap[b]? = some (.cells (arow (fun j => f (n - 1 - j)) n R) 5 y) := by
  go_enter Try.func50, Try.ntmps50
  go_wp2_with fail
  go_loopw [2, 3] (fun i j wr => ∃ k : Nat, 2 * k ≤ n ∧ i = .int .i64 k ∧ j = .int .i64 ((n : Int) - 1 - k) ∧ wr.heap[b]? = some (.cells (arow (revN f n k) n R) 5 y) ∧ Below b w wr) (fun i _ _ => n - (intOf i).toNat)
  case atStart => exact ⟨0, by omega, rfl, by simp, by rw [show arow (revN f n 0) n R = arow f n R from by unfold arow; congr 1; exact bcells_congr (fun j hj => by unfold revN; rw [if_neg (by omega)])]; exact h, Below.refl _ _⟩
  case round =>
    clear h
    obtain ⟨k, hk, rfl, rfl, h, hw⟩ := hrel
    by_cases hlt : 2 * k + 1 < n
    · have h1 : (k : Int) < (n : Int) - 1 - k := by omega
      have c1 := arow_at h k (by omega)
      have c2 := arow_at h (n - 1 - k) (by omega)
      have z1 := hy _ _ k h (by omega)
      have z2 := hy _ _ (n - 1 - k) h (by omega)
      have hA := hp_set (o := k) (v := .int .u8 ((revN f n k (n - 1 - k) : Nat) : Int)) (show wr.drew.heap[b]? = _ from h)
      have z3 := hy _ _ (n - 1 - k) hA (by omega)
      have hB := hp_set (o := n - 1 - k) (v := .int .u8 ((revN f n k k : Nat) : Int)) hA
      have hwB := (hw.drew.setCell (p := ⟨b, k, none⟩) (by simp) (.int .u8 ((revN f n k (n - 1 - k) : Nat) : Int))).setCell (p := ⟨b, n - 1 - k, none⟩) (by simp) (.int .u8 ((revN f n k k : Nat) : Int))
      have hq : (n : Int) - 1 - k = ((n - 1 - k : Nat) : Int) := by omega
      rw [hq]
      have h2 : ((n - 1 - k : Nat) : Int) < (n : Int) := by omega
      rw [hq] at h1
      have hC : ((arow (revN f n k) n R).setIfInBounds k (.int .u8 ((revN f n k (n - 1 - k) : Nat) : Int))).setIfInBounds (n - 1 - k) (.int .u8 ((revN f n k k : Nat) : Int)) = arow (revN f n (k + 1)) n R := by
        rw [arow_set _ (by omega), arow_set _ (by omega)]
        unfold arow
        congr 1
        apply bcells_congr
        intro j hj
        rw [← revN_step f n k j hlt hj]
        have e1 : revN f n k k = f k := by unfold revN; rw [if_neg (by omega)]
        have e2 : revN f n k (n - 1 - k) = f (n - 1 - k) := by unfold revN; rw [if_neg (by omega)]
        rw [e1, e2]
      rw [hC] at hB
      clear hC
      have hq2 : ((n - 1 - k : Nat) : Int) - 1 = (n : Int) - 1 - ((k + 1 : Nat) : Int) := by omega
      generalize hQ : n - 1 - k = q at *
      go_wp2_with fail
      go_region
      go_wp2_with fail
      go_roundw
      case rel => exact ⟨k + 1, by omega, by go_num, by congr 1 <;> omega, hB, hwB⟩
      case measure => simp [intOf]; omega
    · have h1 : ¬ (k : Int) < (n : Int) - 1 - k := by omega
      rw [show arow (revN f n k) n R = arow (fun j => f (n - 1 - j)) n R from by unfold arow; congr 1; exact bcells_congr (fun j hj => revN_end f n k j (by omega) hj)] at h
      go_wp2_with fail
      refine bodyPost_end (results_none rfl _ _ _) rfl ?_
      exact ⟨rfl, hw, h⟩
end Go.Proofs.Ytggbjpebdmlahaa
