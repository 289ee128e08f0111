/- field.Add, field.Sub: sums and differences modulo the prime, for all numbers of 256 bits. No other conditions. -/
import Derived.Test.YtdhaedjmlddjcaaFieldB
import Derived.Test.YtdhaedjmlddjcaaAddMul
namespace Go.Proofs.Ytdhaedjmlddjcaa
open Go.RowKit Go.Mono Go.Num

theorem below_tr {w w2 w3 : World} (h : Below w.heap.size w w2) (hC : Below w2.drew.heap.size w2.drew w3) : Below w.heap.size w w3 :=
  h.drew.trans (hC.mono (by have := h.size; simp; omega))
theorem below_tr' {w w2 w3 : World} (h : Below w.heap.size w w2) (hC : Below w2.heap.size w2 w3) : Below w.heap.size w w3 :=
  h.trans (hC.mono (by have := h.size; simp; omega))

set_option maxHeartbeats 400000 in
theorem add_any (a b : Nat) (w : World) (ha : a < W ^ 4) (hb : b < W ^ 4) :
    Calls Try.prog 36 #[num a, num b] w fun e w' => e = .returned (num ((a + b) % p)) ∧ Below w.heap.size w w' := by
  have ha' := Nat.mod_lt a (show 0 < p by decide)
  have hb' := Nat.mod_lt b (show 0 < p by decide)
  have hs : a % p + b % p < W ^ 4 := Nat.lt_trans (show _ < 2 * p by omega) twop_lt
  have hfin : (a % p + b % p) % p = (a + b) % p := (Nat.add_mod a b p).symm
  have Hs := Lib.hid hs
  have Hfin := Lib.hid hfin
  have Ha := Lib.hid ha
  have Hb := Lib.hid hb
  clear ha' hb' hs hfin ha hb
  generalize hA : a % p = A at *
  generalize hB : b % p = B at *
  have HA := Lib.hid hA
  have HB := Lib.hid hB
  clear hA hB
  go_enter Try.func36, Try.ntmps36
  go_wp2_with fail
  have hx := hp_old (.cells #[.int .u64 0, .int .u64 0, .int .u64 0, .int .u64 0] 26) (hp_old (.cells (cells4 b) 26) (hp_new (w := w) (.cells (cells4 a) 26) rfl))
  have hy := hp_old (.cells #[.int .u64 0, .int .u64 0, .int .u64 0, .int .u64 0] 26) (hp_new (w := w.alloc (.cells (cells4 a) 26)) (b := w.heap.size + 1) (.cells (cells4 b) 26) (by simp))
  have hz := hp_new (w := (w.alloc (.cells (cells4 a) 26)).alloc (.cells (cells4 b) 26)) (b := w.heap.size + 1 + 1) (.cells #[.int .u64 0, .int .u64 0, .int .u64 0, .int .u64 0] 26) (by simp)
  have hw : Below w.heap.size w (((w.alloc (.cells (cells4 a) 26)).alloc (.cells (cells4 b) 26)).alloc (.cells #[.int .u64 0, .int .u64 0, .int .u64 0, .int .u64 0] 26)) :=
    (((Below.refl _ _).alloc (Nat.le_refl _) _).alloc (by simp) _).alloc (by simp; omega) _
  simp only [cells4] at hx hy hz hw
  generalize (((w.alloc (.cells #[.int .u64 (wd a 0), .int .u64 (wd a 1), .int .u64 (wd a 2), .int .u64 (wd a 3)] 26)).alloc (.cells #[.int .u64 (wd b 0), .int .u64 (wd b 1), .int .u64 (wd b 2), .int .u64 (wd b 3)] 26)).alloc (.cells #[.int .u64 0, .int .u64 0, .int .u64 0, .int .u64 0] 26)) = w0 at *
  refine wp_region_mono 4 4 [] (fun _ => default) (by kernel_rfl) (by kernel_rfl) (fun _ _ _ _ _ h => h) ?_
  simp only [List.take_succ_cons, List.take_zero, List.drop_succ_cons, List.drop_zero]
  repeat (first
    | (apply head_pure rfl rfl rfl
       case h => (intro w1; go_simp; rfl)
       simp only [Act.put, List.setIfInBounds_toArray, List.set_cons_zero, List.set_cons_succ])
    | (apply head_val rfl rfl rfl rfl
       case h => (intro w1 hC; have cx := cell4 (keep hC (hp_drew hx)); have cy := cell4 (keep hC (hp_drew hy)); clear hC; go_simp; rfl)
       simp only [Act.put, List.setIfInBounds_toArray, List.set_cons_zero, List.set_cons_succ]))
  refine head_call rfl rfl rfl rfl (fun w1 hC => by first | (go_simp; done) | (go_simp; rfl)) (fun w1 hC => norm_any a w1 Ha.out) ?_
  simp only [Act.put, List.setIfInBounds_toArray, List.set_cons_zero, List.set_cons_succ]
  repeat (first
    | (apply head_pure rfl rfl rfl
       case h => (intro w1; go_simp; rfl)
       simp only [Act.put, List.setIfInBounds_toArray, List.set_cons_zero, List.set_cons_succ])
    | (apply head_val rfl rfl rfl rfl
       case h => (intro w1 hC; have cx := cell4 (keep hC (hp_drew hx)); have cy := cell4 (keep hC (hp_drew hy)); clear hC; go_simp; rfl)
       simp only [Act.put, List.setIfInBounds_toArray, List.set_cons_zero, List.set_cons_succ]))
  refine head_call rfl rfl rfl rfl (fun w1 hC => by first | (go_simp; done) | (go_simp; rfl)) (fun w1 hC => norm_any b w1 Hb.out) ?_
  simp only [Act.put, List.setIfInBounds_toArray, List.set_cons_zero, List.set_cons_succ]
  rw [HA.out, HB.out]
  refine head_nil ?_
  intro w3 hC _
  have hx3 := keep hC (hp_drew hx)
  have hy3 := keep hC (hp_drew hy)
  have hz3 := keep hC (hp_drew hz)
  have hw3 := below_tr hw hC
  clear hx hy hz hw hC
  have cx0 := cell_of hx3 0
  have cx1 := cell_of hx3 1
  have cx2 := cell_of hx3 2
  have cx3 := cell_of hx3 3
  have cxf := frozen_of hx3
  have cy0 := cell_of hy3 0
  have cy1 := cell_of hy3 1
  have cy2 := cell_of hy3 2
  have cy3 := cell_of hy3 3
  have cyf := frozen_of hy3
  have hx4 := st4_other (b := w.heap.size + 1) (n := B) (st4_at (n := A) hx3) (by omega)
  have hy4 := st4_at (n := B) (st4_other (b := w.heap.size) (n := A) hy3 (by omega))
  have hz4 := st4_other (b := w.heap.size + 1) (n := B) (st4_other (b := w.heap.size) (n := A) hz3 (by omega)) (by omega)
  have hw4 := st4_below (b := w.heap.size + 1) (n := B) (st4_below (b := w.heap.size) (n := A) hw3 (by omega)) (by omega)
  go_wp2
  simp only [st4_eq]
  clear hx3 hy3 hz3 hw3 cx0 cx1 cx2 cx3 cxf cy0 cy1 cy2 cy3 cyf
  generalize st4 (st4 w3 w.heap.size A) (w.heap.size + 1) B = w4 at *
  go_loopw [5, 11] (fun c i wr => ∃ k : Nat, k ≤ 4 ∧ i = .int .i64 k ∧ c = .int .u64 (cadd A B k) ∧ wr.heap[w.heap.size]? = some (.cells (mix4 ((A + B) % W ^ 4) A k) 26) ∧ wr.heap[w.heap.size + 1]? = some (.cells (cells4 B) 26) ∧ wr.heap[w.heap.size + 1 + 1]? = some (.cells #[.int .u64 0, .int .u64 0, .int .u64 0, .int .u64 0] 26) ∧ Below w.heap.size w wr) (fun _ i _ => 4 - (intOf i).toNat)
  case atStart =>
    exact ⟨0, by omega, rfl, by rw [cadd_zero]; rfl, hx4, hy4, hz4, hw4⟩
  case round =>
    clear hx4 hy4 hz4 hw4
    obtain ⟨k, hk, rfl, rfl, hO, hB, hz, hbelow⟩ := hrel
    by_cases hlt : k < 4
    · go_wp2
      refine wp_region_mono 13 13 [11, 12] (fun _ => default) (by kernel_rfl) (by kernel_rfl) (fun _ _ _ _ _ h => h) ?_
      simp only [List.take_succ_cons, List.take_zero, List.drop_succ_cons, List.drop_zero]
      repeat (first
        | (apply head_pure rfl rfl rfl
           case h => (intro w1; go_simp; rfl)
           simp only [Act.put, List.setIfInBounds_toArray, List.set_cons_zero, List.set_cons_succ])
        | (apply head_val rfl rfl rfl rfl
           case h => (intro w1 hC; have c1 := cell_of (keep hC (hp_drew hO)) k; have c2 := (mix4_cell ((A + B) % W ^ 4) A k k hlt); have c3 := cell4 (keep hC (hp_drew hB)) k hlt; clear hC; go_simp; rfl)
           simp only [Act.put, List.setIfInBounds_toArray, List.set_cons_zero, List.set_cons_succ]))
      refine head_val rfl rfl rfl rfl (fun w1 hC => by go_simp; rw [add64 (wd A k) (wd B k) (cadd A B k) (cadd_le A B k), cadd_word A B k hlt, cadd_succ A B k]) ?_
      simp only [Act.put, List.setIfInBounds_toArray, List.set_cons_zero, List.set_cons_succ]
      repeat
        (apply head_pure rfl rfl rfl
         case h => (intro w1; go_simp; rfl)
         simp only [Act.put, List.setIfInBounds_toArray, List.set_cons_zero, List.set_cons_succ])
      refine head_nil ?_
      intro w2 hC _
      have hO2 := keep hC (hp_drew hO)
      have hB2 := keep hC (hp_drew hB)
      have hz2 := keep hC (hp_drew hz)
      have hcO := cell_of hO2 k
      rw [mix4_cell _ _ _ _ hlt] at hcO
      have hfO := frozen_of hO2 k
      have hb2 := below_tr hbelow hC
      have hO3 := hp_set (o := k) (v := .int .u64 (wd ((A + B) % W ^ 4) k)) hO2
      rw [mix4_set _ _ _ hlt] at hO3
      have hB3 := hp_set_ne (o := k) (v := .int .u64 (wd ((A + B) % W ^ 4) k)) (b' := w.heap.size) hB2 (by omega)
      have hz3 := hp_set_ne (o := k) (v := .int .u64 (wd ((A + B) % W ^ 4) k)) (b' := w.heap.size) hz2 (by omega)
      clear hO hB hz hO2 hB2 hz2 hC hbelow
      go_wp2
      go_roundw
      case rel => exact ⟨k + 1, by omega, by go_num, rfl, hO3, hB3, hz3, hb2.setCell (by simp) _⟩
      case measure => simp [intOf]; omega
    · obtain rfl : k = 4 := by omega
      rw [mix4_four, Nat.mod_eq_of_lt Hs.out] at hO
      have c1 := cell4 hO
      go_wp2_with fail
      refine (norm_any (A + B) _ Hs.out).mono ?_
      rintro e w5 ⟨rfl, hb5⟩
      have hz5 := keep hb5 hz
      have hw5 := below_tr' hbelow hb5
      rw [Hfin.out]
      have cz0 := cell_of hz5 0
      have cz1 := cell_of hz5 1
      have cz2 := cell_of hz5 2
      have cz3 := cell_of hz5 3
      have czf := frozen_of hz5
      have hc := cell4 (st4_at (n := (a + b) % p) hz5)
      have hB := st4_below (b := w.heap.size + 1 + 1) (n := (a + b) % p) hw5 (by omega)
      go_wp2
      simp only [st4_eq]
      exact bodyPost_ret (v := num ((a + b) % p)) (by simp [results, Try.results36, go_sem, hc]) rfl ⟨rfl, hB⟩

set_option maxHeartbeats 400000 in
theorem sub_any (a b : Nat) (w : World) (ha : a < W ^ 4) (hb : b < W ^ 4) :
    Calls Try.prog 35 #[num a, num b] w fun e w' => e = .returned (num (fsub a b)) ∧ Below w.heap.size w w' := by
  have hb' := Nat.mod_lt b (show 0 < p by decide)
  have hs : sub256 p (b % p) = p - b % p := sub256_ge p_lt (by omega)
  have hl : p - b % p < W ^ 4 := Nat.lt_of_le_of_lt (by omega) p_lt
  have hfin : (a + (p - b % p)) % p = fsub a b := rfl
  have Hfin := Lib.hid hfin
  have Hs := Lib.hid hs
  have Hl := Lib.hid hl
  have Ha := Lib.hid ha
  have Hb := Lib.hid hb
  clear hb' hs hl hfin ha hb
  generalize fsub a b = F at *
  generalize hS : p - b % p = S at *
  clear hS
  go_enter Try.func35, Try.ntmps35
  go_wp2_with fail
  have hx := hp_old (.cells #[.int .u64 0, .int .u64 0, .int .u64 0, .int .u64 0] 26) (hp_old (.cells (cells4 b) 26) (hp_new (w := w) (.cells (cells4 a) 26) rfl))
  have hy := hp_old (.cells #[.int .u64 0, .int .u64 0, .int .u64 0, .int .u64 0] 26) (hp_new (w := w.alloc (.cells (cells4 a) 26)) (b := w.heap.size + 1) (.cells (cells4 b) 26) (by simp))
  have hz := hp_new (w := (w.alloc (.cells (cells4 a) 26)).alloc (.cells (cells4 b) 26)) (b := w.heap.size + 1 + 1) (.cells #[.int .u64 0, .int .u64 0, .int .u64 0, .int .u64 0] 26) (by simp)
  have hw : Below w.heap.size w (((w.alloc (.cells (cells4 a) 26)).alloc (.cells (cells4 b) 26)).alloc (.cells #[.int .u64 0, .int .u64 0, .int .u64 0, .int .u64 0] 26)) :=
    (((Below.refl _ _).alloc (Nat.le_refl _) _).alloc (by simp) _).alloc (by simp; omega) _
  simp only [cells4] at hx hy hz hw
  generalize (((w.alloc (.cells #[.int .u64 (wd a 0), .int .u64 (wd a 1), .int .u64 (wd a 2), .int .u64 (wd a 3)] 26)).alloc (.cells #[.int .u64 (wd b 0), .int .u64 (wd b 1), .int .u64 (wd b 2), .int .u64 (wd b 3)] 26)).alloc (.cells #[.int .u64 0, .int .u64 0, .int .u64 0, .int .u64 0] 26)) = w0 at *
  refine wp_region_mono 7 7 [6] (fun _ => default) (by kernel_rfl) (by kernel_rfl) (fun _ _ _ _ _ h => h) ?_
  simp only [List.take_succ_cons, List.take_zero, List.drop_succ_cons, List.drop_zero]
  refine head_call rfl rfl rfl rfl (fun w1 hC => by first | (go_simp; done) | (go_simp; rfl)) (fun w1 hC => prime_any w1) ?_
  simp only [Act.put, List.setIfInBounds_toArray, List.set_cons_zero, List.set_cons_succ]
  repeat (first
    | (apply head_pure rfl rfl rfl
       case h => (intro w1; go_simp; rfl)
       simp only [Act.put, List.setIfInBounds_toArray, List.set_cons_zero, List.set_cons_succ])
    | (apply head_val rfl rfl rfl rfl
       case h => (intro w1 hC; have cx := cell4 (keep hC (hp_drew hx)); have cy := cell4 (keep hC (hp_drew hy)); clear hC; go_simp; rfl)
       simp only [Act.put, List.setIfInBounds_toArray, List.set_cons_zero, List.set_cons_succ]))
  refine head_call rfl rfl rfl rfl (fun w1 hC => by first | (go_simp; done) | (go_simp; rfl)) (fun w1 hC => norm_any b w1 Hb.out) ?_
  simp only [Act.put, List.setIfInBounds_toArray, List.set_cons_zero, List.set_cons_succ]
  refine head_call rfl rfl rfl rfl (fun w1 hC => by first | (go_simp; done) | (go_simp; rfl)) (fun w1 hC => less_any p (b % p) w1) ?_
  simp only [Act.put, List.setIfInBounds_toArray, List.set_cons_zero, List.set_cons_succ]
  rw [Hs.out]
  repeat
    (apply head_pure rfl rfl rfl
     case h => (intro w1; go_simp; rfl)
     simp only [Act.put, List.setIfInBounds_toArray, List.set_cons_zero, List.set_cons_succ])
  refine head_nil ?_
  intro w3 hC _
  have hx3 := keep hC (hp_drew hx)
  have hy3 := keep hC (hp_drew hy)
  have hz3 := keep hC (hp_drew hz)
  have hw3 := below_tr hw hC
  clear hx hy hz hw hC
  have cy0 := cell_of hy3 0
  have cy1 := cell_of hy3 1
  have cy2 := cell_of hy3 2
  have cy3 := cell_of hy3 3
  have cyf := frozen_of hy3
  have hx4 := st4_other (b := w.heap.size + 1) (n := S) hx3 (by omega)
  have hy4 := st4_at (n := S) hy3
  have hz4 := st4_other (b := w.heap.size + 1) (n := S) hz3 (by omega)
  have hw4 := st4_below (b := w.heap.size + 1) (n := S) hw3 (by omega)
  have cx := cell4 hx3
  go_wp2_with fail
  simp only [st4_eq]
  clear hx3 hy3 hz3 hw3 cx cy0 cy1 cy2 cy3 cyf
  generalize st4 w3 (w.heap.size + 1) S = w4 at *
  refine (add_any a S _ Ha.out Hl.out).mono ?_
  rintro e w5 ⟨rfl, hb5⟩
  rw [Hfin.out]
  have hz5 := keep hb5 hz4
  have hw5 := below_tr' hw4 hb5
  have cz0 := cell_of hz5 0
  have cz1 := cell_of hz5 1
  have cz2 := cell_of hz5 2
  have cz3 := cell_of hz5 3
  have czf := frozen_of hz5
  have hc := cell4 (st4_at (n := F) hz5)
  have hB := st4_below (b := w.heap.size + 1 + 1) (n := F) hw5 (by omega)
  go_wp2
  simp only [st4_eq]
  exact bodyPost_ret (v := num F) (by simp [results, Try.results35, go_sem, hc]) rfl ⟨rfl, hB⟩
end Go.Proofs.Ytdhaedjmlddjcaa
