/- path.every at bytes, MayName: what each call comes to. No conditions beyond the sizes. -/
import Derived.Test.YtggbjpebdmlahaaPathE
namespace Go.Num
open Go Go.RowKit
theorem allName_step (f : Nat → Nat) (k : Nat) : allName f (k + 1) = (allName f k && okName (f k)) := by
  unfold allName
  rw [List.range_succ, List.all_append]
  simp
theorem allName_no (f : Nat → Nat) (n k : Nat) (h : k < n) (hk : okName (f k) = false) : allName f n = false := by
  unfold allName
  rw [List.all_eq_false]
  exact ⟨k, List.mem_range.2 h, by simp [hk]⟩
end Go.Num
namespace Go.Proofs.Ytggbjpebdmlahaa
open Go.RowKit Go.Mono Go.Num
set_option maxRecDepth 8000 in
set_option maxHeartbeats 400000 in
theorem every_any (f : Nat → Nat) (n b c z : Nat) (y : Nat × Nat) (w : World) (hn : n < 100000) (hf : ∀ j, f j < 256) (h : w.heap[b]? = some (.cells (brow f n z) 5 y)) :
    Calls Try.prog 19 #[.slice (some ⟨b, 0, none⟩) n c, .func (.func 20) #[] #[]] w fun e w' => e = .returned (.bool (allName f n)) ∧ w' = w := by
  go_enter Try.func19, Try.ntmps19
  go_wp2_with fail
  go_loopw [9] (fun i wr => ∃ k : Nat, k ≤ n ∧ i = .int .i64 k ∧ wr = w ∧ allName f k = true) (fun i _ => n - (intOf i).toNat)
  case atStart => exact ⟨0, by omega, rfl, rfl, rfl⟩
  case round =>
    obtain ⟨k, hk, rfl, rfl, ha⟩ := hrel
    by_cases hlt : k < n
    · have cs := brow_at h k hlt
      have hlt' : (k : Int) < (n : Int) := by omega
      have hV := hf k
      rcases hb : okName (f k) with _ | _
      · have hno := allName_no f n k hlt hb
        go_wp2_with (go_at_call 20; refine (isName_any _ _ hV).mono ?_; rintro e w' ⟨rfl, rfl⟩; rw [hb])
        go_ret
        rw [hno]
        exact ⟨rfl, rfl⟩
      · have hst := allName_step f k
        rw [ha, hb] at hst
        go_wp2_with (go_at_call 20; refine (isName_any _ _ hV).mono ?_; rintro e w' ⟨rfl, rfl⟩; rw [hb])
        go_roundw
        case rel => exact ⟨k + 1, by omega, by go_num, by first | trivial | rfl, by first | trivial | exact hst⟩
        case measure => simp [intOf]; omega
    · obtain rfl : k = n := by omega
      have hlt' : ¬ (k : Int) < (k : Int) := by omega
      go_wp2_with fail
      go_ret
      exact ⟨rfl, rfl⟩
end Go.Proofs.Ytggbjpebdmlahaa
