/- field.prime, field.less, field.more: what each call comes to, for every number of 256 bits. No conditions. -/
import Derived.Test.YtdhaedjmlddjcaaChecked
import Derived.Test.YtdhaedjmlddjcaaBits
import Derived.Test.YtdhaedjmlddjcaaNorm
import Derived.WalkKit
import Derived.WalkSpells
import Derived.Lib.Hide
namespace Go.Proofs.Ytdhaedjmlddjcaa
open Go.RowKit Go.Mono Go.Num

theorem num_prime : num p = .agg #[.int .u64 18446744073709551597, .int .u64 18446744073709551615, .int .u64 18446744073709551615, .int .u64 9223372036854775807] :=
  num_of (by decide +kernel) (by decide +kernel) (by decide +kernel) (by decide +kernel)

theorem idx_num (a k : Nat) (hk : k < 4) (w : World) : (Instr.index 26 (num a) (.int .i64 k)).run Try.prog w = .ok (.int .u64 (wd a k)) w := by
  rcases lt4 hk with rfl | rfl | rfl | rfl <;> kernel_rfl

set_option maxHeartbeats 400000 in
theorem prime_any (w : World) :
    Calls Try.prog 57 #[] w fun e w' => e = .returned (num p) ∧ Below w.heap.size w w' := by
  rw [num_prime]
  go_enter Try.func57, Try.ntmps57
  go_wp2
  exact bodyPost_ret (v := .agg #[.int .u64 18446744073709551597, .int .u64 18446744073709551615, .int .u64 18446744073709551615, .int .u64 9223372036854775807]) (by simp [results, Try.results57, go_sem]) rfl ⟨rfl, (Below.refl _ _).alloc (Nat.le_refl _) _⟩

set_option maxHeartbeats 400000 in
theorem more_any (a n : Nat) (w : World) :
    Calls Try.prog 55 #[num a, .int .u64 n] w fun e w' => e = .returned (.tuple #[num ((a + n) % W ^ 4), .int .u64 (car a n 4)]) ∧ Below w.heap.size w w' := by
  go_enter Try.func55, Try.ntmps55
  go_wp2
  go_loopw [1, 9] (fun c i wr => ∃ k : Nat, k ≤ 4 ∧ i = .int .i64 k ∧ c = .int .u64 (car a n k) ∧ wr.heap[w.heap.size + 1]? = some (.cells (mix4 ((a + n) % W ^ 4) 0 k) 26) ∧ Below w.heap.size w wr) (fun _ i _ => 4 - (intOf i).toNat)
  case atStart =>
    exact ⟨0, by omega, rfl, rfl, hp_new _ (by simp), ((Below.refl _ _).alloc (Nat.le_refl _) _).alloc (by simp) _⟩
  case round =>
    obtain ⟨k, hk, rfl, rfl, hO, hbelow⟩ := hrel
    by_cases hlt : k < 4
    · have hcO := cell_of hO k
      rw [mix4_cell _ _ _ _ hlt] at hcO
      have hfO := frozen_of hO k
      have hO3 := hp_set (o := k) (v := .int .u64 (wd ((a + n) % W ^ 4) k)) hO
      rw [mix4_set _ _ _ hlt] at hO3
      have hix := idx_num a k hlt
      have hadd : ∀ w', (callFunc 59 #[.int .u64 (wd a k), .int .u64 (car a n k), .int .u64 0]).run Try.prog w' = .ok (.value (.tuple #[.int .u64 (wd ((a + n) % W ^ 4) k), .int .u64 (car a n (k + 1))])) w' := by
        intro w'
        have h := add64 (wd a k) (car a n k) 0 (by omega) w'
        rw [Nat.add_zero, car_word a n k hlt, car_succ a n k] at h
        exact h
      go_wp2
      go_roundw
      case rel => exact ⟨k + 1, by omega, by go_num, rfl, hO3, hbelow.setCell (by simp) _⟩
      case measure => simp [intOf]; omega
    · obtain rfl : k = 4 := by omega
      have hc0 := cell4 hO 0 (by omega)
      have hc1 := cell4 hO 1 (by omega)
      have hc2 := cell4 hO 2 (by omega)
      have hc3 := cell4 hO 3 (by omega)
      have hf0 := frozen_of hO
      go_wp2
      rw [setCell_self hc0, setCell_self hc1, setCell_self hc2, setCell_self hc3]
      exact bodyPost_ret (v := .tuple #[num ((a + n) % W ^ 4), .int .u64 (car a n 4)]) (by simp [results, Try.results55, go_sem, hc0, hc1, hc2, hc3]) rfl ⟨rfl, hbelow⟩

set_option maxHeartbeats 400000 in
theorem less_any (a b : Nat) (w : World) :
    Calls Try.prog 56 #[num a, num b] w fun e w' => e = .returned (.tuple #[num (sub256 a b), .bool (decide (0 < bor a b 4))]) ∧ Below w.heap.size w w' := by
  go_enter Try.func56, Try.ntmps56
  go_wp2
  go_loopw [6, 8] (fun c i wr => ∃ k : Nat, k ≤ 4 ∧ i = .int .i64 k ∧ c = .int .u64 (bor a b k) ∧ wr.heap[w.heap.size]? = some (.cells (cells4 a) 26) ∧ wr.heap[w.heap.size + 1]? = some (.cells (cells4 b) 26) ∧ wr.heap[w.heap.size + 1 + 1]? = some (.cells (mix4 (sub256 a b) 0 k) 26) ∧ Below w.heap.size w wr) (fun _ i _ => 4 - (intOf i).toNat)
  case atStart =>
    exact ⟨0, by omega, rfl, by rw [bor_zero]; rfl, hp_old _ (hp_old _ (hp_new _ rfl)), hp_old _ (hp_new _ (by simp)), hp_new _ (by simp),
      (((Below.refl _ _).alloc (Nat.le_refl _) _).alloc (by simp) _).alloc (by simp; omega) _⟩
  case round =>
    obtain ⟨k, hk, rfl, rfl, hA, hB, hO, hbelow⟩ := hrel
    by_cases hlt : k < 4
    · have hcA := fun (w1 : World) (hC : Below wr.drew.heap.size wr.drew w1) => cell4 (keep hC (hp_drew hA)) k hlt
      have hcB := fun (w1 : World) (hC : Below wr.drew.heap.size wr.drew w1) => cell4 (keep hC (hp_drew hB)) k hlt
      go_wp2
      refine wp_region_mono 13 13 [11, 12] (fun _ => default) (by kernel_rfl) (by kernel_rfl) (fun _ _ _ _ _ h => h) ?_
      simp only [List.take_succ_cons, List.take_zero, List.drop_succ_cons, List.drop_zero]
      repeat (first
        | (apply head_pure rfl rfl rfl
           case h => (intro w1; go_simp; rfl)
           simp only [Act.put, List.setIfInBounds_toArray, List.set_cons_zero, List.set_cons_succ])
        | (apply head_val rfl rfl rfl rfl
           case h => (intro w1 hC; have hcA1 := hcA w1 hC; have hcB1 := hcB w1 hC; go_simp; rfl)
           simp only [Act.put, List.setIfInBounds_toArray, List.set_cons_zero, List.set_cons_succ]))
      refine head_val rfl rfl rfl rfl (fun w1 hC => by go_simp; rw [sub64 (wd a k) (wd b k) (bor a b k) (bor_le a b k), sub256_word a b k hlt, bor_succ a b k]) ?_
      simp only [Act.put, List.setIfInBounds_toArray, List.set_cons_zero, List.set_cons_succ]
      repeat
        (apply head_pure rfl rfl rfl
         case h => (intro w1; go_simp; rfl)
         simp only [Act.put, List.setIfInBounds_toArray, List.set_cons_zero, List.set_cons_succ])
      refine head_nil ?_
      intro w2 hC _
      have hO2 := keep hC (hp_drew hO)
      have hA2 := keep hC (hp_drew hA)
      have hB2 := keep hC (hp_drew hB)
      have hcO := cell_of hO2 k
      rw [mix4_cell _ _ _ _ hlt] at hcO
      have hfO := frozen_of hO2 k
      have hb2 : Below w.heap.size w w2 := (hbelow.drew).trans (hC.mono (by have := hbelow.size; simp; omega))
      have hO3 := hp_set (o := k) (v := .int .u64 (wd (sub256 a b) k)) hO2
      rw [mix4_set _ _ _ hlt] at hO3
      have hA3 := hp_set_ne (o := k) (v := .int .u64 (wd (sub256 a b) k)) (b' := w.heap.size + 1 + 1) hA2 (by omega)
      have hB3 := hp_set_ne (o := k) (v := .int .u64 (wd (sub256 a b) k)) (b' := w.heap.size + 1 + 1) hB2 (by omega)
      clear hA hB hO hcA hcB hA2 hB2 hO2 hC hbelow
      go_wp2
      go_roundw
      case rel => exact ⟨k + 1, by omega, by go_num, rfl, hA3, hB3, hO3, hb2.setCell (by simp; omega) _⟩
      case measure => simp [intOf]; omega
    · obtain rfl : k = 4 := by omega
      have hc0 := cell4 hO 0 (by omega)
      have hc1 := cell4 hO 1 (by omega)
      have hc2 := cell4 hO 2 (by omega)
      have hc3 := cell4 hO 3 (by omega)
      have hf0 := frozen_of hO
      go_wp2
      rw [setCell_self hc0, setCell_self hc1, setCell_self hc2, setCell_self hc3]
      exact bodyPost_ret (v := .tuple #[num (sub256 a b), .bool (decide (0 < bor a b 4))]) (by simp [results, Try.results56, go_sem, hc0, hc1, hc2, hc3]) rfl ⟨rfl, hbelow⟩
end Go.Proofs.Ytdhaedjmlddjcaa
