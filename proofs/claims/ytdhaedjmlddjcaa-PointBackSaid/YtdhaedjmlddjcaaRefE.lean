/- r6.shift: a number of 256 bits halved so often. No other conditions. -/
import Derived.Test.YtdhaedjmlddjcaaRefD
namespace Go.Num
open Go Go.RowKit
theorem wd_half (n i : Nat) : wd (n / 2) i = wd n i / 2 + wd n (i + 1) % 2 * 9223372036854775808 := by
  unfold wd
  have h1 : n / 2 / W ^ i = n / W ^ i / 2 := by rw [Nat.div_div_eq_div_mul, Nat.mul_comm, ← Nat.div_div_eq_div_mul]
  have h2 : n / W ^ (i + 1) = n / W ^ i / W := by rw [Nat.pow_succ, Nat.div_div_eq_div_mul]
  rw [h1, h2]
  generalize n / W ^ i = x
  rw [show W = 18446744073709551616 from rfl]
  omega
theorem wd_top {n : Nat} (h : n < W ^ 4) : wd n 4 = 0 := by unfold wd; rw [Nat.div_eq_of_lt h]; rfl
theorem mix4_self (n z k : Nat) (hk : k < 4) : (mix4 n z k)[k]? = some (.int .u64 (wd z k)) := by
  rw [mix4_cell _ _ _ _ hk, if_neg (Nat.lt_irrefl k)]
theorem mix4_next (n z k : Nat) (hk : k + 1 < 4) : (mix4 n z k)[k + 1]? = some (.int .u64 (wd z (k + 1))) := by
  rw [mix4_cell _ _ _ _ hk, if_neg (by omega)]
theorem mix4_size (n z k : Nat) : (mix4 n z k).size = 4 := rfl
theorem shr1_walk (n k : Nat) : (wd n k : Int) / 2 = ((wd n k / 2 : Nat) : Int) := rfl
theorem half_or (n k : Nat) : bits .or .u64 ((wd n k / 2 : Nat) : Int) (IntKind.u64.wrap ((wd n (k + 1) : Int) * 9223372036854775808)) = (wd (n / 2) k : Int) := by
  rw [wd_half]
  have h1 := wd_lt n k
  generalize wd n k = x at *
  generalize wd n (k + 1) = y at *
  rw [wrap_u64, show ((y : Int) * 9223372036854775808) % 18446744073709551616 = ((y % 2 * 9223372036854775808 : Nat) : Int) by omega, u64_or_nat _ _ (by omega) (by omega), Nat.or_comm,
    show y % 2 * 9223372036854775808 = 2 ^ 63 * (y % 2) by omega, ← Nat.two_pow_add_eq_or_of_lt (show x / 2 < 2 ^ 63 by omega)]
  congr 1
  omega
end Go.Num
namespace Go.Proofs.Ytdhaedjmlddjcaa
open Go.RowKit Go.Mono Go.Num
set_option maxHeartbeats 1000000 in
theorem shift_any (a n : Nat) (w : World) (ha : a < W ^ 4) (hn : n < 256) :
    Calls Try.prog 62 #[num a, .int .i64 n] w fun e w' => e = .returned (num (a / 2 ^ n)) ∧ Below w.heap.size w w' := by
  have Ha := Lib.hid ha
  clear ha
  go_enter Try.func62, Try.ntmps62
  go_wp2_with fail
  obtain ⟨w0, hq_w0⟩ : ∃ w0, ((w.alloc (.cells #[.int .u64 (wd a 0), .int .u64 (wd a 1), .int .u64 (wd a 2), .int .u64 (wd a 3)] 26)).alloc (.cells #[.int .u64 0, .int .u64 0, .int .u64 0, .int .u64 0] 26)) = w0 := ⟨_, rfl⟩
  have hA : w0.heap[w.heap.size]? = some (.cells #[.int .u64 (wd a 0), .int .u64 (wd a 1), .int .u64 (wd a 2), .int .u64 (wd a 3)] 26) := by rw [← hq_w0]; exact hp_old _ (hp_new _ (by simp))
  have hR : w0.heap[w.heap.size + 1]? = some (.cells #[.int .u64 0, .int .u64 0, .int .u64 0, .int .u64 0] 26) := by rw [← hq_w0]; exact hp_new _ (by simp)
  have hs_w0 : w0.heap.size = w.heap.size + 2 := by rw [← hq_w0]; simp
  have hw_w0 : Below w.heap.size w w0 := by rw [← hq_w0]; exact ((Below.refl w.heap.size w).alloc (Nat.le_refl _) _).alloc (by simp) _
  rw [hq_w0]
  clear hq_w0
  go_loopw [5] (fun vk wr => ∃ k : Nat, k ≤ n ∧ vk = .int .i64 k ∧ wr.heap[w.heap.size]? = some (.cells (cells4 (a / 2 ^ k)) 26) ∧ wr.heap[w.heap.size + 1]? = some (.cells #[.int .u64 0, .int .u64 0, .int .u64 0, .int .u64 0] 26) ∧ Below w.heap.size w wr) (fun vk _ => n - (intOf vk).toNat)
  case atStart => exact ⟨0, by omega, rfl, by rw [Nat.pow_zero, Nat.div_one]; exact hA, hR, hw_w0⟩
  case round =>
    clear hA hR hw_w0 hs_w0
    obtain ⟨k, hk, rfl, hA, hR, hw⟩ := hrel
    by_cases hlt : k < n
    · have hlt' : (k : Int) < (n : Int) := by omega
      have hst : a / 2 ^ k / 2 = a / 2 ^ (k + 1) := by rw [Nat.pow_succ, Nat.div_div_eq_div_mul]
      have hAl : a / 2 ^ k < W ^ 4 := Nat.lt_of_le_of_lt (Nat.div_le_self _ _) Ha.out
      have Hst := Lib.hid hst
      have HAl := Lib.hid hAl
      clear hst hAl
      generalize a / 2 ^ k = A at *
      go_wp2_with fail
      go_loopw [6] (fun vi wr => ∃ i : Nat, i ≤ 4 ∧ vi = .int .i64 i ∧ wr.heap[w.heap.size]? = some (.cells (mix4 (A / 2) A i) 26) ∧ wr.heap[w.heap.size + 1]? = some (.cells #[.int .u64 0, .int .u64 0, .int .u64 0, .int .u64 0] 26) ∧ Below w.heap.size w wr) (fun vi _ => 4 - (intOf vi).toNat)
      case atStart => exact ⟨0, by omega, rfl, hA, hR, hw⟩
      case round =>
        clear hA hR hw
        obtain ⟨i, hi, rfl, hA, hR, hw⟩ := hrel
        by_cases hli : i < 4
        · have hli' : (i : Int) < 4 := by omega
          have cA := (cell_of hA i).trans (mix4_self _ _ _ hli)
          have fA := frozen_of hA i
          have e1 := shr1_walk A i
          have hA2 := hp_set (o := i) (v := .int .u64 ((wd A i / 2 : Nat) : Int)) hA
          have hR2 := hp_set_ne (o := i) (v := .int .u64 ((wd A i / 2 : Nat) : Int)) (b' := w.heap.size) hR (by omega)
          have hw2 := hw.setCell (p := ⟨w.heap.size, i, none⟩) (by simp) (.int .u64 ((wd A i / 2 : Nat) : Int))
          by_cases hl3 : i < 3
          · have hl3' : (i : Int) < 3 := by omega
            have c1 : ((mix4 (A / 2) A i).setIfInBounds i (.int .u64 ((wd A i / 2 : Nat) : Int)))[i]? = some (.int .u64 ((wd A i / 2 : Nat) : Int)) := by
              rw [Array.getElem?_setIfInBounds_self, if_pos (by rw [mix4_size]; exact hli)]
            have c2 : ((mix4 (A / 2) A i).setIfInBounds i (.int .u64 ((wd A i / 2 : Nat) : Int)))[i + 1]? = some (.int .u64 (wd A (i + 1))) := by
              rw [Array.getElem?_setIfInBounds_ne (by omega)]; exact mix4_next _ _ _ (by omega)
            have c3 : ((mix4 (A / 2) A i).setIfInBounds i (.int .u64 ((wd A i / 2 : Nat) : Int))).setIfInBounds i (.int .u64 (wd (A / 2) i)) = mix4 (A / 2) A (i + 1) := by
              rw [Array.setIfInBounds_setIfInBounds]; exact mix4_set _ _ _ hli
            have e2 := half_or A i
            have m1 : IntKind.i64.wrap ((i : Int) + 1) = ((i + 1 : Nat) : Int) := by rw [IntWalk.i64_in _ (by omega)]; rfl
            have m2 : ((i + 1 : Nat) : Int) < 4 := by omega
            clear hA hR hw
            generalize (mix4 (A / 2) A i).setIfInBounds i (.int .u64 ((wd A i / 2 : Nat) : Int)) = M at *
            generalize wd A i / 2 = X at *
            generalize wd A i = X0 at *
            generalize wd A (i + 1) = Y at *
            generalize wd (A / 2) i = Z at *
            obtain ⟨J, hJ⟩ : ∃ J, i + 1 = J := ⟨_, rfl⟩
            have HJ := Lib.hid hJ
            rw [hJ] at c2 c3 m1 m2
            clear hJ
            go_wp2_with fail
            generalize wr.setCell ⟨w.heap.size, i, none⟩ (.int .u64 (X : Int)) = w2 at *
            clear cA fA e1
            have hc1 := fun (w1 : World) (hC : Below w2.drew.heap.size w2.drew w1) => (cell_of (keep hC (hp_drew hA2)) i).trans c1
            have hc2 := fun (w1 : World) (hC : Below w2.drew.heap.size w2.drew w1) => (cell_of (keep hC (hp_drew hA2)) J).trans c2
            refine wp_region_mono 10 10 [] (fun _ => default) (by kernel_rfl) (by kernel_rfl) (fun _ _ _ _ _ h => h) ?_
            simp only [List.take_succ_cons, List.take_zero, List.drop_succ_cons, List.drop_zero]
            repeat (first
              | (apply head_pure rfl rfl rfl
                 case h => (intro w1; go_simp; rfl)
                 simp only [Act.put, List.setIfInBounds_toArray, List.set_cons_zero, List.set_cons_succ])
              | (apply head_val rfl rfl rfl rfl
                 case h => (intro w1 hC; have cA := hc1 w1 hC; have cB := hc2 w1 hC; clear hC; go_simp; rfl)
                 simp only [Act.put, List.setIfInBounds_toArray, List.set_cons_zero, List.set_cons_succ]))
            refine head_nil ?_
            intro w3 hC _
            clear hc1 hc2 e2 m1 m2
            replace hw2 := below_tr hw2 hC
            replace hA2 := keep hC (hp_drew hA2)
            replace hR2 := keep hC (hp_drew hR2)
            clear hC
            have cA := (cell_of hA2 i).trans c1
            have fA := frozen_of hA2 i
            have hA3 := hp_set (o := i) (v := .int .u64 Z) hA2
            rw [c3] at hA3
            have hR3 := hp_set_ne (o := i) (v := .int .u64 Z) (b' := w.heap.size) hR2 (by omega)
            have hw3 := hw2.setCell (p := ⟨w.heap.size, i, none⟩) (by simp) (.int .u64 (Z : Int))
            clear hA2 hR2 hw2 c1 c2 c3
            go_wp2_with fail
            go_roundw
            case rel => exact ⟨J, by have := HJ.out; omega, by rw [← HJ.out]; go_num, hA3, hR3, hw3⟩
            case measure => simp [intOf]; omega
          · obtain rfl : i = 3 := by omega
            have e3 : wd A 3 / 2 = wd (A / 2) 3 := by rw [wd_half, wd_top HAl.out]; simp
            rw [e3, mix4_set _ _ _ (by omega)] at hA2
            rw [e3] at hR2 hw2 e1
            clear hA hR hw
            go_wp2_with fail
            go_roundw
            case rel => exact ⟨4, by omega, rfl, hA2, hR2, hw2⟩
            case measure => simp [intOf]
        · obtain rfl : i = 4 := by omega
          rw [mix4_four, Hst.out] at hA
          go_wp2_with fail
          go_roundw
          case rel => exact ⟨k + 1, by omega, by go_num, hA, hR, hw⟩
          case measure => simp [intOf]; omega
    · obtain rfl : k = n := by omega
      have cA := cell4 hA
      go_wp2_with (first | (refine wpList_storeBlk 4 rfl rfl rfl rfl hR rfl rfl (by kernel_rfl) (by kernel_rfl) ?_; intro w6 s6; simp only [Act.put]))
      exact bodyPost_ret (results_blk Try.results62 rfl s6.at_ Try.underlying26 rfl (by kernel_rfl)) rfl ⟨rfl, s6.below hw (by omega)⟩
end Go.Proofs.Ytdhaedjmlddjcaa
