/- r1.halves, r1.Whole, r1.Mul, r6.fold, r6.Mul: what each call comes to, for numbers of 256 bits. No other conditions. -/
import Derived.Test.YtdhaedjmlddjcaaHalf
namespace Go.Num
open Go Go.RowKit
theorem half16_cell (n o : Nat) (ho : o < 16) : (half16 n)[o]? = some (.int .u64 (hd n o)) := by
  rcases below16 ho with rfl | rfl | rfl | rfl | rfl | rfl | rfl | rfl | rfl | rfl | rfl | rfl | rfl | rfl | rfl | rfl <;> rfl
theorem half8_cell (n o : Nat) (ho : o < 8) : (half8 n)[o]? = some (.int .u64 (hd n o)) := by
  rcases below8 ho with rfl | rfl | rfl | rfl | rfl | rfl | rfl | rfl <;> rfl
theorem seth_next (a k : Nat) : seth (a % V ^ k) k (hd a k) = a % V ^ (k + 1) := by
  have h1 := seth_val (a % V ^ k) k (hd a k)
  have h2 : hd (a % V ^ k) k = 0 := by unfold hd; rw [Nat.div_eq_of_lt (Nat.mod_lt _ (Vpos k))]; rfl
  rw [h2, Nat.zero_mul, Nat.add_zero] at h1
  rw [h1, mod_powv_succ]
theorem halves_next (a k : Nat) : seth (seth (a % W ^ k) (2 * k) (hd a (2 * k))) (2 * k + 1) (hd a (2 * k + 1)) = a % W ^ (k + 1) := by
  rw [← Vpow, seth_next, seth_next, ← Vpow, show 2 * (k + 1) = 2 * k + 1 + 1 by omega]
theorem and_half (n k : Nat) : bits .and .u64 (wd n k : Int) 4294967295 = (hd n (2 * k) : Int) := by
  rw [and32 _ (wd_lt n k), hd_even]
theorem or_half (n k : Nat) : bits .or .u64 (hd n (2 * k) : Int) (IntKind.u64.wrap ((hd n (2 * k + 1) : Int) * 4294967296)) = (wd n k : Int) := by
  have h1 := hd_even n k
  have h2 := hd_odd n k
  have h3 := wd_lt n k
  have h4 : hd n (2 * k + 1) < 4294967296 := hd_lt _ _
  have h5 : hd n (2 * k) < 4294967296 := hd_lt _ _
  rw [wrap_u64, show ((hd n (2 * k + 1) : Int) * 4294967296) % 18446744073709551616 = ((hd n (2 * k + 1) * 4294967296 : Nat) : Int) by omega, u64_or_nat _ _ (by omega) (by omega), Nat.or_comm, show hd n (2 * k + 1) * 4294967296 = 2 ^ 32 * hd n (2 * k + 1) by omega, ← Nat.two_pow_add_eq_or_of_lt h5]
  congr 1
  omega
theorem shr_half (n k : Nat) : (wd n k : Int) / 4294967296 = (hd n (2 * k + 1) : Int) := by
  rw [hd_odd]; rfl
end Go.Num
namespace Go.Proofs.Ytdhaedjmlddjcaa
open Go.RowKit Go.Mono Go.Num
set_option maxHeartbeats 400000 in
theorem halves_any (a : Nat) (w : World) (ha : a < W ^ 4) :
    Calls Try.prog 71 #[num a] w fun e w' => e = .returned (.agg (half8 a)) ∧ Below w.heap.size w w' := by
  have Ha := Lib.hid ha
  clear ha
  go_enter Try.func71, Try.ntmps71
  go_wp2_with fail
  obtain ⟨w0, hq_w0⟩ : ∃ w0, (((w.alloc (.cells #[.int .u64 (wd a 0), .int .u64 (wd a 1), .int .u64 (wd a 2), .int .u64 (wd a 3)] 26)).alloc (.cells #[.int .u64 0, .int .u64 0, .int .u64 0, .int .u64 0, .int .u64 0, .int .u64 0, .int .u64 0, .int .u64 0] 79)).alloc (.cells #[.int .u64 0, .int .u64 0, .int .u64 0, .int .u64 0, .int .u64 0, .int .u64 0, .int .u64 0, .int .u64 0] 79)) = w0 := ⟨_, rfl⟩
  have hA : w0.heap[w.heap.size]? = some (.cells #[.int .u64 (wd a 0), .int .u64 (wd a 1), .int .u64 (wd a 2), .int .u64 (wd a 3)] 26) := by rw [← hq_w0]; exact hp_old _ (hp_old _ (hp_new _ (by simp)))
  have hR : w0.heap[w.heap.size + 1]? = some (.cells #[.int .u64 0, .int .u64 0, .int .u64 0, .int .u64 0, .int .u64 0, .int .u64 0, .int .u64 0, .int .u64 0] 79) := by rw [← hq_w0]; exact hp_old _ (hp_new _ (by simp))
  have hO : w0.heap[w.heap.size + 1 + 1]? = some (.cells #[.int .u64 0, .int .u64 0, .int .u64 0, .int .u64 0, .int .u64 0, .int .u64 0, .int .u64 0, .int .u64 0] 79) := by rw [← hq_w0]; exact hp_new _ (by simp)
  have hs_w0 : w0.heap.size = w.heap.size + 3 := by rw [← hq_w0]; simp
  have hw_w0 : Below w.heap.size w w0 := by rw [← hq_w0]; exact (((Below.refl w.heap.size w).alloc (Nat.le_refl _) _).alloc (by simp) _).alloc (by simp; omega) _
  rw [hq_w0]
  clear hq_w0
  rw [← half8_zero] at hO
  go_loopw [4] (fun i wr => ∃ k : Nat, k ≤ 4 ∧ i = .int .i64 k ∧ wr.heap[w.heap.size]? = some (.cells (cells4 a) 26) ∧ wr.heap[w.heap.size + 1]? = some (.cells #[.int .u64 0, .int .u64 0, .int .u64 0, .int .u64 0, .int .u64 0, .int .u64 0, .int .u64 0, .int .u64 0] 79) ∧ wr.heap[w.heap.size + 1 + 1]? = some (.cells (half8 (a % W ^ k)) 79) ∧ Below w.heap.size w wr) (fun i _ => 4 - (intOf i).toNat)
  case atStart => exact ⟨0, by omega, rfl, hA, hR, by rw [Nat.pow_zero, Nat.mod_one]; exact hO, hw_w0⟩
  case round =>
    clear hA hR hO hw_w0 hs_w0
    obtain ⟨k, hk, rfl, hA, hR, hO, hw⟩ := hrel
    by_cases hlt : k < 4
    · have hk' : (k : Int) < 4 := by omega
      have cA := cell4 hA k hlt
      have e1 := and_half a k
      have e2 := shr_half a k
      have cO := half8_at hO (2 * k) (by omega)
      have fO := frozen_of hO (2 * k)
      have l1 := hd_lt a (2 * k)
      have l2 := hd_lt a (2 * k + 1)
      have hO2 := hp_set (o := 2 * k) (v := .int .u64 (hd a (2 * k))) hO
      rw [half8_set _ _ _ (by omega) l1] at hO2
      have cO2 := half8_at hO2 (2 * k + 1) (by omega)
      have fO2 := frozen_of hO2 (2 * k + 1)
      have hO3 := hp_set (o := 2 * k + 1) (v := .int .u64 (hd a (2 * k + 1))) hO2
      rw [half8_set _ _ _ (by omega) l2, halves_next] at hO3
      have hA3 := hp_set_ne (o := 2 * k + 1) (v := .int .u64 (hd a (2 * k + 1))) (b' := w.heap.size + 1 + 1) (hp_set_ne (o := 2 * k) (v := .int .u64 (hd a (2 * k))) (b' := w.heap.size + 1 + 1) hA (by omega)) (by omega)
      have hR3 := hp_set_ne (o := 2 * k + 1) (v := .int .u64 (hd a (2 * k + 1))) (b' := w.heap.size + 1 + 1) (hp_set_ne (o := 2 * k) (v := .int .u64 (hd a (2 * k))) (b' := w.heap.size + 1 + 1) hR (by omega)) (by omega)
      have hw3 := (hw.setCell (p := ⟨w.heap.size + 1 + 1, 2 * k, none⟩) (by simp; omega) (.int .u64 (hd a (2 * k)))).setCell (p := ⟨w.heap.size + 1 + 1, 2 * k + 1, none⟩) (by simp; omega) (.int .u64 (hd a (2 * k + 1)))
      clear hA hR hO hw hO2 l1 l2
      go_wp2_with fail
      go_roundw
      case rel => exact ⟨k + 1, by omega, by go_num, hA3, hR3, hO3, hw3⟩
      case measure => simp [intOf]; omega
    · obtain rfl : k = 4 := by omega
      rw [Nat.mod_eq_of_lt Ha.out] at hO
      have cO := half8_at hO
      go_wp2_with (first | (refine wpList_storeBlk 8 rfl rfl rfl rfl hR rfl rfl (by kernel_rfl) (by kernel_rfl) ?_; intro w4 s4; simp only [Act.put]))
      exact bodyPost_ret (results_blk Try.results71 rfl s4.at_ Try.underlying79 rfl (by kernel_rfl)) rfl ⟨rfl, s4.below hw (by omega)⟩
set_option maxHeartbeats 400000 in
theorem whole_any (n : Nat) (w : World) :
    Calls Try.prog 70 #[.agg (half8 n)] w fun e w' => e = .returned (num n) ∧ Below w.heap.size w w' := by
  unfold half8
  go_enter Try.func70, Try.ntmps70
  go_wp2_with fail
  obtain ⟨w0, hq_w0⟩ : ∃ w0, (((w.alloc (.cells #[.int .u64 (hd n 0), .int .u64 (hd n 1), .int .u64 (hd n 2), .int .u64 (hd n 3), .int .u64 (hd n 4), .int .u64 (hd n 5), .int .u64 (hd n 6), .int .u64 (hd n 7)] 79)).alloc (.cells #[.int .u64 0, .int .u64 0, .int .u64 0, .int .u64 0] 26)).alloc (.cells #[.int .u64 0, .int .u64 0, .int .u64 0, .int .u64 0] 26)) = w0 := ⟨_, rfl⟩
  have hA : w0.heap[w.heap.size]? = some (.cells #[.int .u64 (hd n 0), .int .u64 (hd n 1), .int .u64 (hd n 2), .int .u64 (hd n 3), .int .u64 (hd n 4), .int .u64 (hd n 5), .int .u64 (hd n 6), .int .u64 (hd n 7)] 79) := by rw [← hq_w0]; exact hp_old _ (hp_old _ (hp_new _ (by simp)))
  have hR : w0.heap[w.heap.size + 1]? = some (.cells #[.int .u64 0, .int .u64 0, .int .u64 0, .int .u64 0] 26) := by rw [← hq_w0]; exact hp_old _ (hp_new _ (by simp))
  have hO : w0.heap[w.heap.size + 1 + 1]? = some (.cells #[.int .u64 0, .int .u64 0, .int .u64 0, .int .u64 0] 26) := by rw [← hq_w0]; exact hp_new _ (by simp)
  have hs_w0 : w0.heap.size = w.heap.size + 3 := by rw [← hq_w0]; simp
  have hw_w0 : Below w.heap.size w w0 := by rw [← hq_w0]; exact (((Below.refl w.heap.size w).alloc (Nat.le_refl _) _).alloc (by simp) _).alloc (by simp; omega) _
  rw [hq_w0]
  clear hq_w0
  rw [← cells4_zero] at hO
  replace hA : w0.heap[w.heap.size]? = some (.cells (half8 n) 79) := hA
  go_loopw [4] (fun i wr => ∃ k : Nat, k ≤ 4 ∧ i = .int .i64 k ∧ wr.heap[w.heap.size]? = some (.cells (half8 n) 79) ∧ wr.heap[w.heap.size + 1]? = some (.cells #[.int .u64 0, .int .u64 0, .int .u64 0, .int .u64 0] 26) ∧ wr.heap[w.heap.size + 1 + 1]? = some (.cells (mix4 n 0 k) 26) ∧ Below w.heap.size w wr) (fun i _ => 4 - (intOf i).toNat)
  case atStart => exact ⟨0, by omega, rfl, hA, hR, hO, hw_w0⟩
  case round =>
    clear hA hR hO hw_w0 hs_w0
    obtain ⟨k, hk, rfl, hA, hR, hO, hw⟩ := hrel
    by_cases hlt : k < 4
    · have hk' : (k : Int) < 4 := by omega
      have hcA := fun (w1 : World) (hC : Below wr.drew.heap.size wr.drew w1) => half8_at (keep hC (hp_drew hA)) (2 * k) (by omega)
      have hcB := fun (w1 : World) (hC : Below wr.drew.heap.size wr.drew w1) => half8_at (keep hC (hp_drew hA)) (2 * k + 1) (by omega)
      have hm := mix4_set n 0 k hlt
      have hor := or_half n k
      have m1 : IntKind.i64.wrap (2 * (k : Int)) = ((2 * k : Nat) : Int) := by rw [IntWalk.i64_in _ (by omega)]; rfl
      have m2 : IntKind.i64.wrap (((2 * k : Nat) : Int) + 1) = ((2 * k + 1 : Nat) : Int) := by rw [IntWalk.i64_in _ (by omega)]; rfl
      have b1 : ((2 * k : Nat) : Int) < 8 := by omega
      have b2 : ((2 * k + 1 : Nat) : Int) < 8 := by omega
      have d1 := hd_lt n (2 * k + 1)
      generalize hd n (2 * k) = X at *
      generalize hd n (2 * k + 1) = Y at *
      generalize 2 * k + 1 = J1 at *
      generalize 2 * k = J at *
      generalize wd n k = Z at *
      go_wp2_with fail
      refine wp_region_mono 13 13 [] (fun _ => default) (by kernel_rfl) (by kernel_rfl) (fun _ _ _ _ _ h => h) ?_
      simp only [List.take_succ_cons, List.take_zero, List.drop_succ_cons, List.drop_zero]
      repeat (first
        | (apply head_pure rfl rfl rfl
           case h => (intro w1; go_simp; rfl)
           simp only [Act.put, List.setIfInBounds_toArray, List.set_cons_zero, List.set_cons_succ])
        | (apply head_val rfl rfl rfl rfl
           case h => (intro w1 hC; have cA := hcA w1 hC; have cB := hcB w1 hC; clear hC; go_simp; rfl)
           simp only [Act.put, List.setIfInBounds_toArray, List.set_cons_zero, List.set_cons_succ]))
      refine head_nil ?_
      intro w3 hC _
      clear hcA hcB hor m1 m2 b1 b2 d1
      replace hw := below_tr hw hC
      replace hA := keep hC (hp_drew hA)
      replace hR := keep hC (hp_drew hR)
      replace hO := keep hC (hp_drew hO)
      clear hC
      have cO := cell_of hO k
      rw [mix4_cell _ _ _ _ hlt] at cO
      have fO := frozen_of hO k
      have hO3 := hp_set (o := k) (v := .int .u64 Z) hO
      rw [hm] at hO3
      have hA3 := hp_set_ne (o := k) (v := .int .u64 Z) (b' := w.heap.size + 1 + 1) hA (by omega)
      have hR3 := hp_set_ne (o := k) (v := .int .u64 Z) (b' := w.heap.size + 1 + 1) hR (by omega)
      have hw3 := hw.setCell (p := ⟨w.heap.size + 1 + 1, k, none⟩) (by simp; omega) (.int .u64 (Z : Int))
      clear hA hR hO hw hm
      go_wp2_with fail
      go_roundw
      case rel => exact ⟨k + 1, by omega, by go_num, hA3, hR3, hO3, hw3⟩
      case measure => simp [intOf]; omega
    · obtain rfl : k = 4 := by omega
      rw [mix4_four] at hO
      have cO := cell4 hO
      go_wp2_with (first | (refine wpList_storeBlk 4 rfl rfl rfl rfl hR rfl rfl (by kernel_rfl) (by kernel_rfl) ?_; intro w4 s4; simp only [Act.put]))
      exact bodyPost_ret (results_blk Try.results70 rfl s4.at_ Try.underlying26 rfl (by kernel_rfl)) rfl ⟨rfl, s4.below hw (by omega)⟩
set_option maxHeartbeats 1000000 in
theorem rmul_any (a b : Nat) (w : World) (ha : a < W ^ 4) (hb : b < W ^ 4) :
    Calls Try.prog 66 #[num a, num b] w fun e w' => e = .returned (.agg (half16 (a * b))) ∧ Below w.heap.size w w' := by
  have Ha := Lib.hid ha
  have Hb := Lib.hid hb
  clear ha hb
  go_enter Try.func66, Try.ntmps66
  go_wp2_with fail
  obtain ⟨w0, hq_w0⟩ : ∃ w0, (((w.alloc (.cells #[.int .u64 (wd a 0), .int .u64 (wd a 1), .int .u64 (wd a 2), .int .u64 (wd a 3)] 26)).alloc (.cells #[.int .u64 (wd b 0), .int .u64 (wd b 1), .int .u64 (wd b 2), .int .u64 (wd b 3)] 26)).alloc (.cells #[.int .u64 0, .int .u64 0, .int .u64 0, .int .u64 0, .int .u64 0, .int .u64 0, .int .u64 0, .int .u64 0, .int .u64 0, .int .u64 0, .int .u64 0, .int .u64 0, .int .u64 0, .int .u64 0, .int .u64 0, .int .u64 0] 86)) = w0 := ⟨_, rfl⟩
  have hA : w0.heap[w.heap.size]? = some (.cells #[.int .u64 (wd a 0), .int .u64 (wd a 1), .int .u64 (wd a 2), .int .u64 (wd a 3)] 26) := by rw [← hq_w0]; exact hp_old _ (hp_old _ (hp_new _ (by simp)))
  have hB : w0.heap[w.heap.size + 1]? = some (.cells #[.int .u64 (wd b 0), .int .u64 (wd b 1), .int .u64 (wd b 2), .int .u64 (wd b 3)] 26) := by rw [← hq_w0]; exact hp_old _ (hp_new _ (by simp))
  have hR : w0.heap[w.heap.size + 1 + 1]? = some (.cells #[.int .u64 0, .int .u64 0, .int .u64 0, .int .u64 0, .int .u64 0, .int .u64 0, .int .u64 0, .int .u64 0, .int .u64 0, .int .u64 0, .int .u64 0, .int .u64 0, .int .u64 0, .int .u64 0, .int .u64 0, .int .u64 0] 86) := by rw [← hq_w0]; exact hp_new _ (by simp)
  have hs_w0 : w0.heap.size = w.heap.size + 3 := by rw [← hq_w0]; simp
  have hw_w0 : Below w.heap.size w w0 := by rw [← hq_w0]; exact (((Below.refl w.heap.size w).alloc (Nat.le_refl _) _).alloc (by simp) _).alloc (by simp; omega) _
  rw [hq_w0]
  clear hq_w0
  have lz := Go.Mono.lt_of_some (hp_drew hR)
  refine wp_region_mono 4 6 [] (fun _ => .cells #[.int .u64 0, .int .u64 0, .int .u64 0, .int .u64 0, .int .u64 0, .int .u64 0, .int .u64 0, .int .u64 0] 79) (by kernel_rfl) (by kernel_rfl) (fun _ _ _ _ _ h => h) ?_
  simp only [List.take_succ_cons, List.take_zero, List.drop_succ_cons, List.drop_zero]
  repeat (first
    | (apply head_pure rfl rfl rfl
       case h => (intro w1; go_simp; rfl)
       simp only [Act.put, List.setIfInBounds_toArray, List.set_cons_zero, List.set_cons_succ])
    | (apply head_val rfl rfl rfl rfl
       case h => (intro w1 hC; have cA := cell4 (keep hC (hp_drew hA)); have cB := cell4 (keep hC (hp_drew hB)); clear hC; go_simp; rfl)
       simp only [Act.put, List.setIfInBounds_toArray, List.set_cons_zero, List.set_cons_succ]))
  refine head_call rfl rfl rfl rfl (fun w1 hC => by first | (go_simp; done) | (go_simp; rfl)) (fun w1 hC => halves_any a w1 Ha.out) ?_
  simp only [Act.put, List.setIfInBounds_toArray, List.set_cons_zero, List.set_cons_succ]
  repeat (first
    | (apply head_pure rfl rfl rfl
       case h => (intro w1; go_simp; rfl)
       simp only [Act.put, List.setIfInBounds_toArray, List.set_cons_zero, List.set_cons_succ])
    | (apply head_val rfl rfl rfl rfl
       case h => (intro w1 hC; have cA := cell4 (keep hC (hp_drew hA)); have cB := cell4 (keep hC (hp_drew hB)); clear hC; go_simp; rfl)
       simp only [Act.put, List.setIfInBounds_toArray, List.set_cons_zero, List.set_cons_succ]))
  refine head_call rfl rfl rfl rfl (fun w1 hC => by first | (go_simp; done) | (go_simp; rfl)) (fun w1 hC => halves_any b w1 Hb.out) ?_
  simp only [Act.put, List.setIfInBounds_toArray, List.set_cons_zero, List.set_cons_succ]
  refine head_alloc rfl rfl rfl rfl (fun w1 => by first | (go_simp; done) | (go_simp; rfl)) (fun bX hbX => ?_)
  simp only [Act.put, List.setIfInBounds_toArray, List.set_cons_zero, List.set_cons_succ]
  refine head_alloc rfl rfl rfl rfl (fun w1 => by first | (go_simp; done) | (go_simp; rfl)) (fun bY hbY => ?_)
  simp only [Act.put, List.setIfInBounds_toArray, List.set_cons_zero, List.set_cons_succ]
  refine head_nil ?_
  intro w1 hC hown
  obtain ⟨hl_bX, hn_bX, hd_bX, hl_bY, hn_bY, hd_bY, -⟩ := hown
  replace hn_bX : w1.heap[bX]? = some (.cells #[.int .u64 0, .int .u64 0, .int .u64 0, .int .u64 0, .int .u64 0, .int .u64 0, .int .u64 0, .int .u64 0] 79) := hn_bX
  replace hl_bX : _ ≤ bX := hl_bX
  have ne_bY_bX : bY ≠ bX := hd_bX _ (List.Mem.head _)
  replace hn_bY : w1.heap[bY]? = some (.cells #[.int .u64 0, .int .u64 0, .int .u64 0, .int .u64 0, .int .u64 0, .int .u64 0, .int .u64 0, .int .u64 0] 79) := hn_bY
  replace hl_bY : _ ≤ bY := hl_bY
  clear hd_bX hd_bY
  have lX : w.heap.size + 1 + 1 < bX := by omega
  have lY : w.heap.size + 1 + 1 < bY := by omega
  clear lz hl_bX hl_bY hbX hbY hA hB hs_w0
  replace hw_w0 := below_tr hw_w0 hC
  replace hR := keep hC (hp_drew hR)
  clear hC
  refine wpList_storeBlk 8 rfl rfl rfl rfl hn_bX rfl rfl (by kernel_rfl) (by kernel_rfl) ?_
  intro w2 s2
  simp only [Act.put]
  replace hw_w0 := s2.below hw_w0 (by omega)
  replace hR := s2.other hR (by omega)
  replace hn_bY := s2.other hn_bY (by omega)
  replace hn_bX := s2.at_
  clear s2
  refine wpList_storeBlk 8 rfl rfl rfl rfl hn_bY rfl rfl (by kernel_rfl) (by kernel_rfl) ?_
  intro w3 s3
  simp only [Act.put]
  replace hw_w0 := s3.below hw_w0 (by omega)
  replace hR := s3.other hR (by omega)
  replace hn_bX := s3.other hn_bX (by omega)
  replace hn_bY := s3.at_
  clear s3
  go_wp2_with fail
  have hlX := Go.Mono.lt_of_some hn_bX
  have hlY := Go.Mono.lt_of_some hn_bY
  have hlw := hw_w0.size
  obtain ⟨w4, hq_w4⟩ : ∃ w4, (w3.alloc (.cells #[.int .u64 0, .int .u64 0, .int .u64 0, .int .u64 0, .int .u64 0, .int .u64 0, .int .u64 0, .int .u64 0, .int .u64 0, .int .u64 0, .int .u64 0, .int .u64 0, .int .u64 0, .int .u64 0, .int .u64 0, .int .u64 0] 86)) = w4 := ⟨_, rfl⟩
  have hO : w4.heap[w3.heap.size]? = some (.cells #[.int .u64 0, .int .u64 0, .int .u64 0, .int .u64 0, .int .u64 0, .int .u64 0, .int .u64 0, .int .u64 0, .int .u64 0, .int .u64 0, .int .u64 0, .int .u64 0, .int .u64 0, .int .u64 0, .int .u64 0, .int .u64 0] 86) := by rw [← hq_w4]; exact hp_new _ (by simp)
  have hs_w4 : w4.heap.size = w3.heap.size + 1 := by rw [← hq_w4]; simp
  have hw_w4 : Below w3.heap.size w3 w4 := by rw [← hq_w4]; exact (Below.refl w3.heap.size w3).alloc (Nat.le_refl _) _
  rw [hq_w4]
  clear hq_w4
  replace hw_w0 := below_tr' hw_w0 hw_w4
  replace hR := keep hw_w4 hR
  replace hn_bX := keep hw_w4 hn_bX
  replace hn_bY := keep hw_w4 hn_bY
  clear hw_w4
  clear hs_w4
  rw [← half16_zero] at hO
  generalize w3.heap.size = bO at *
  go_loopw [8] (fun i wr => ∃ k : Nat, k ≤ 8 ∧ i = .int .i64 k ∧ wr.heap[w.heap.size + 1 + 1]? = some (.cells #[.int .u64 0, .int .u64 0, .int .u64 0, .int .u64 0, .int .u64 0, .int .u64 0, .int .u64 0, .int .u64 0, .int .u64 0, .int .u64 0, .int .u64 0, .int .u64 0, .int .u64 0, .int .u64 0, .int .u64 0, .int .u64 0] 86) ∧ wr.heap[bX]? = some (.cells (half8 a) 79) ∧ wr.heap[bY]? = some (.cells (half8 b) 79) ∧ wr.heap[bO]? = some (.cells (half16 (a % V ^ k * b)) 86) ∧ Below w.heap.size w wr) (fun i _ => 8 - (intOf i).toNat)
  case atStart => exact ⟨0, by omega, rfl, hR, hn_bX, hn_bY, by rw [Nat.pow_zero, Nat.mod_one, Nat.zero_mul]; exact hO, hw_w0⟩
  case round =>
    clear hR hn_bX hn_bY hO hw_w0
    obtain ⟨i, hi, rfl, hR, hX, hY, hO, hw⟩ := hrel
    by_cases hlt : i < 8
    · have hlt' : (i : Int) < 8 := by omega
      go_wp2_with fail
      obtain ⟨wo, hwo⟩ : ∃ wo : World, wo = wr := ⟨_, rfl⟩
      subst hwo
      go_loopw [9, 10] (fun c k wr => ∃ (j N C : Nat), j ≤ 8 ∧ k = .int .i64 j ∧ c = .int .u64 C ∧ InnerV a b i j N C ∧ wr.heap[w.heap.size + 1 + 1]? = some (.cells #[.int .u64 0, .int .u64 0, .int .u64 0, .int .u64 0, .int .u64 0, .int .u64 0, .int .u64 0, .int .u64 0, .int .u64 0, .int .u64 0, .int .u64 0, .int .u64 0, .int .u64 0, .int .u64 0, .int .u64 0, .int .u64 0] 86) ∧ wr.heap[bX]? = some (.cells (half8 a) 79) ∧ wr.heap[bY]? = some (.cells (half8 b) 79) ∧ wr.heap[bO]? = some (.cells (half16 N) 86) ∧ Below w.heap.size w wr) (fun _ k _ => 8 - (intOf k).toNat)
      case atStart => exact ⟨0, _, 0, by omega, rfl, rfl, InnerV.start a b i (by rw [V8]; exact Hb.out), hR, hX, hY, hO, hw⟩
      case round =>
        clear hR hX hY hO hw
        obtain ⟨j, N, C, hj, rfl, rfl, hin, hR, hX, hY, hO, hw⟩ := hrel
        by_cases hlj : j < 8
        · have hlj' : (j : Int) < 8 := by omega
          have hcX := fun (w1 : World) (hC : Below wr.drew.heap.size wr.drew w1) => half8_at (keep hC (hp_drew hX)) i hlt
          have hcY := fun (w1 : World) (hC : Below wr.drew.heap.size wr.drew w1) => half8_at (keep hC (hp_drew hY)) j hlj
          have hcO := fun (w1 : World) (hC : Below wr.drew.heap.size wr.drew w1) => half16_at (keep hC (hp_drew hO)) (i + j) (by omega)
          have cO0 := half16_cell N (i + j) (by omega)
          have hbd := stp_lt (hd_lt a i) (hd_lt b j) hin.c_lt (hd_lt N (i + j))
          have hT := hd_lt N (i + j)
          have hX0 := hd_lt a i
          have hY0 := hd_lt b j
          have hxy := hmul hX0 hY0
          have hC0 := hin.c_lt
          have hnx := hin.next hlj
          have hsl : stp (hd a i) (hd b j) C (hd N (i + j)) = hd a i * hd b j + C + hd N (i + j) := rfl
          have m1 : IntKind.i64.wrap ((i : Int) + (j : Int)) = ((i + j : Nat) : Int) := by rw [IntWalk.i64_in _ (by omega)]; rfl
          have m2 : ((i + j : Nat) : Int) < 16 := by omega
          have e1 : IntKind.u64.wrap ((C : Int) + (hd N (i + j) : Int)) = ((C + hd N (i + j) : Nat) : Int) := by rw [IntWalk.u64_in _ (by omega)]; rfl
          have e2 : IntKind.u64.wrap ((hd a i : Int) * (hd b j : Int)) = ((hd a i * hd b j : Nat) : Int) := by rw [← Int.natCast_mul, IntWalk.u64_in _ (by omega)]
          have e3 : IntKind.u64.wrap (((C + hd N (i + j) : Nat) : Int) + ((hd a i * hd b j : Nat) : Int)) = (stp (hd a i) (hd b j) C (hd N (i + j)) : Int) := by rw [hsl]; generalize hd a i * hd b j = P at *; rw [IntWalk.u64_in _ (by omega)]; omega
          have hset : ∀ v, v < V → (half16 N).setIfInBounds (i + j) (.int .u64 v) = half16 (seth N (i + j) v) := fun v hv => half16_set N (i + j) v (by omega) hv
          clear hsl hT hX0 hY0 hxy hC0 hin
          generalize stp (hd a i) (hd b j) C (hd N (i + j)) = T at *
          have a1 : bits .and .u64 (T : Int) 4294967295 = ((T % 4294967296 : Nat) : Int) := and32 T hbd
          have a2 : (T : Int) / 4294967296 = ((T / 4294967296 : Nat) : Int) := rfl
          have hl2 : T % 4294967296 < V := Nat.mod_lt _ (by decide)
          generalize T % 4294967296 = L at *
          generalize T / 4294967296 = H at *
          generalize hd a i * hd b j = P at *
          generalize hd a i = X at *
          generalize hd b j = Y at *
          generalize C + hd N (i + j) = S at *
          generalize hd N (i + j) = O at *
          have hset2 := hset L hl2
          clear hset hl2 hbd
          have Hnx := Lib.hid hnx
          clear hnx
          generalize seth N (i + j) L = N2 at *
          generalize i + j = J at *
          go_wp2_with fail
          refine wp_region_calm (by kernel_rfl) (by kernel_rfl) ?_
          repeat (first
            | (refine calm_not rfl ?_
               simp only [Act.put, List.setIfInBounds_toArray, List.set_cons_zero, List.set_cons_succ])
            | (apply calm_pure rfl
               case h => (intro w1; go_simp; rfl)
               simp only [Act.put, List.setIfInBounds_toArray, List.set_cons_zero, List.set_cons_succ])
            | (apply calm_val rfl
               case h => (intro w1 hC; have cX := hcX w1 hC; have cY := hcY w1 hC; have cO := hcO w1 hC; clear hC; go_simp; rfl)
               simp only [Act.put, List.setIfInBounds_toArray, List.set_cons_zero, List.set_cons_succ]))
          refine wpQuiet_nil ?_
          intro w5 hC
          clear hcX hcY hcO e1 e2 e3
          replace hw := below_tr hw hC
          replace hR := keep hC (hp_drew hR)
          replace hX := keep hC (hp_drew hX)
          replace hY := keep hC (hp_drew hY)
          replace hO := keep hC (hp_drew hO)
          clear hC
          have cO := (cell_of hO J).trans cO0
          have fO := frozen_of hO J
          have hO3 := hp_set (o := J) (v := .int .u64 L) hO
          rw [hset2] at hO3
          have hX3 := hp_set_ne (o := J) (v := .int .u64 L) (b' := bO) hX (by omega)
          have hY3 := hp_set_ne (o := J) (v := .int .u64 L) (b' := bO) hY (by omega)
          have hR3 := hp_set_ne (o := J) (v := .int .u64 L) (b' := bO) hR (by omega)
          have hw3 := hw.setCell (p := ⟨bO, J, none⟩) hlw (.int .u64 (L : Int))
          clear hR hX hY hO hw hset2
          go_wp2_with fail
          go_roundw
          case rel => exact ⟨j + 1, _, _, by omega, by go_num, rfl, Hnx.out, hR3, hX3, hY3, hO3, hw3⟩
          case measure => simp [intOf]; omega
        · obtain rfl : j = 8 := by omega
          have hst := hin.stop (by rw [V8]; exact Hb.out)
          have hcl := hin.c_lt
          have cO := half16_at hO (i + 8) (by omega)
          have fO := frozen_of hO (i + 8)
          have hO3 := hp_set (o := i + 8) (v := .int .u64 C) hO
          rw [half16_set _ _ _ (by omega) hcl, hst] at hO3
          have hX3 := hp_set_ne (o := i + 8) (v := .int .u64 C) (b' := bO) hX (by omega)
          have hY3 := hp_set_ne (o := i + 8) (v := .int .u64 C) (b' := bO) hY (by omega)
          have hR3 := hp_set_ne (o := i + 8) (v := .int .u64 C) (b' := bO) hR (by omega)
          have hw3 := hw.setCell (p := ⟨bO, i + 8, none⟩) hlw (.int .u64 (C : Int))
          clear hR hX hY hO hw hst hin hcl
          go_wp2_with fail
          go_roundw
          case rel => exact ⟨i + 1, by omega, by go_num, hR3, hX3, hY3, hO3, hw3⟩
          case measure => simp [intOf]; omega
    · obtain rfl : i = 8 := by omega
      rw [V8, Nat.mod_eq_of_lt Ha.out] at hO
      have cO := half16_at hO
      go_wp2_with (first | (refine wpList_storeBlk 16 rfl rfl rfl rfl hR rfl rfl (by kernel_rfl) (by kernel_rfl) ?_; intro w6 s6; simp only [Act.put]))
      exact bodyPost_ret (results_blk Try.results66 rfl s6.at_ Try.underlying86 rfl (by kernel_rfl)) rfl ⟨rfl, s6.below hw (by omega)⟩
end Go.Proofs.Ytdhaedjmlddjcaa
