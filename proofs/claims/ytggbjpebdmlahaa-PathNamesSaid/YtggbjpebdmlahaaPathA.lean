/- law9.Seed, codec.Fold: what each call comes to. No conditions beyond the sizes. -/
import Derived.Test.YtggbjpebdmlahaaChecked
import Derived.Test.YtggbjpebdmlahaaBy
import Derived.WalkKit
import Derived.WalkSpells
import Derived.IntWalk
import Derived.Lib.Hide
import Derived.ShutString
namespace Go.Proofs.Ytggbjpebdmlahaa
open Go.RowKit Go.Mono Go.Num
theorem run_make32 (w : World) : (Instr.makeSlice 22 (.int .i64 32) (.int .i64 32)).run Try.prog w = .ok (.slice (some ⟨w.heap.size, 0, none⟩) 32 32) (w.alloc (.cells (bcells (fun _ => 0) 32) 5)) := by kernel_rfl
set_option maxHeartbeats 400000 in
theorem seed_any (s : ByteArray) (w : World) :
    Calls Try.prog 13 #[.string s] w fun e w' => e = .returned (.string (bstr (byOf s) 32)) ∧ Below w.heap.size w w' := by
  have hmk := run_make32
  go_enter Try.func13, Try.ntmps13
  go_wp2_with fail
  clear hmk
  obtain ⟨w3, hq_w3⟩ : ∃ w3, (w.alloc (.cells (bcells (fun _ => 0) 32) 5)) = w3 := ⟨_, rfl⟩
  have hs : w3.heap[w.heap.size]? = some (.cells (bcells (fun _ => 0) 32) 5) := by rw [← hq_w3]; exact hp_new _ (by simp)
  have hs_w3 : w3.heap.size = w.heap.size + 1 := by rw [← hq_w3]; simp
  have hw_w3 : Below w.heap.size w w3 := by rw [← hq_w3]; exact (Below.refl w.heap.size w).alloc (Nat.le_refl _) _
  rw [hq_w3]
  clear hq_w3
  go_loopw [4] (fun i wr => ∃ k : Nat, k ≤ 32 ∧ k ≤ s.size ∧ i = .int .i64 k ∧ wr.heap[w.heap.size]? = some (.cells (bcells (fun j => if j < k then byOf s j else 0) 32) 5) ∧ Below w.heap.size w wr) (fun i _ => 32 - (intOf i).toNat)
  case atStart => exact ⟨0, by omega, by omega, rfl, by rw [bcells_congr (g := fun _ => 0) (fun j _ => by simp)]; exact hs, hw_w3⟩
  case round =>
    clear hs hw_w3 hs_w3
    obtain ⟨k, hk, hks, rfl, hs, hw⟩ := hrel
    by_cases hlt : k < 32 ∧ k < s.size
    · obtain ⟨hl1, hl2⟩ := hlt
      have hl1' : (k : Int) < 32 := by omega
      have hl2' : (k : Int) < (s.size : Int) := by omega
      have cs := bcells_at hs k hl1
      have cf := frozen_of hs k
      have hat := byOf_at s hl2
      have hs2 := hp_set (o := k) (v := .int .u8 (byOf s k)) hs
      rw [bcells_step] at hs2
      have hw2 := hw.setCell (p := ⟨w.heap.size, k, none⟩) (by simp) (.int .u8 (byOf s k))
      clear hs hw
      go_wp2_with fail
      go_roundw
      case rel => exact ⟨k + 1, by omega, by omega, by go_num, hs2, hw2⟩
      case measure => simp [intOf]; omega
    · rw [bcells_congr (g := byOf s) (fun j hj => by
        by_cases hjk : j < k
        · rw [if_pos hjk]
        · rw [if_neg hjk, byOf_out s (by omega)])] at hs
      have hst := run_bstr (P := Try.prog) (c := 32) hs Try.underlying22 Try.underlying5 Try.underlying9
      by_cases hl1 : k < 32
      · have hl1' : (k : Int) < 32 := by omega
        have hl2' : ¬ (k : Int) < (s.size : Int) := by omega
        go_wp2_with fail
        go_ret
        exact ⟨rfl, hw⟩
      · have hl1' : ¬ (k : Int) < 32 := by omega
        go_wp2_with fail
        go_ret
        exact ⟨rfl, hw⟩
end Go.Proofs.Ytggbjpebdmlahaa
