/- point.On: whether numbers of 256 bits are a point of the curve. No other conditions. -/
import Derived.Test.YtdhaedjmlddjcaaEq
namespace Go.Proofs.Ytdhaedjmlddjcaa
open Go.RowKit Go.Mono Go.Num

/-- The curve's equation, as the program has it. -/
def curveL (x y : Nat) : Nat := fsub (fmul y y) (fmul x x)
def curveR (x y : Nat) : Nat := fadd 1 (fmul dd (fmul (fmul x x) (fmul y y)))
def onB (x y : Nat) : Bool := eqN (fnorm x) x && (eqN (fnorm y) y && eqN (curveL x y) (curveR x y))
theorem cells4_one' : num 1 = .agg #[.int .u64 1, .int .u64 0, .int .u64 0, .int .u64 0] := num_one

set_option maxHeartbeats 1000000 in
theorem on_any (x y : Nat) (w : World) (hx : x < W ^ 4) (hy : y < W ^ 4) :
    Calls Try.prog 14 #[pt x y] w fun e w' => e = .returned (.bool (onB x y)) ∧ Below w.heap.size w w' := by
  have he1 := fun w => eq_num (fnorm x) x w (lt_W (fnorm_lt x)) hx
  have he2 := fun w => eq_num (fnorm y) y w (lt_W (fnorm_lt y)) hy
  have he3 := fun w => eq_num (curveL x y) (curveR x y) w (lt_W (fsub_lt _ _)) (lt_W (fadd_lt _ _))
  have hadd := fun w => add_f 1 (fmul dd (fmul (fmul x x) (fmul y y))) w (lt_W one_lt) (lt_W (fmul_lt _ _))
  rw [num_one] at hadd
  have Hadd := Lib.hid hadd
  have Hx := Lib.hid hx
  have Hy := Lib.hid hy
  clear hx hy hadd
  unfold onB
  cases hc1 : eqN (fnorm x) x with
  | false =>
    rw [hc1] at he1
    clear hc1 he2 he3 Hadd
    rw [Bool.false_and]
    go_enter Try.func14, Try.ntmps14
    go_wp2_with fail
    obtain ⟨w0, hq_w0⟩ : ∃ w0, (w.alloc (.cells #[.int .u64 (wd x 0), .int .u64 (wd x 1), .int .u64 (wd x 2), .int .u64 (wd x 3), .int .u64 (wd y 0), .int .u64 (wd y 1), .int .u64 (wd y 2), .int .u64 (wd y 3)] 28)) = w0 := ⟨_, rfl⟩
    have hx : w0.heap[w.heap.size]? = some (.cells #[.int .u64 (wd x 0), .int .u64 (wd x 1), .int .u64 (wd x 2), .int .u64 (wd x 3), .int .u64 (wd y 0), .int .u64 (wd y 1), .int .u64 (wd y 2), .int .u64 (wd y 3)] 28) := by rw [← hq_w0]; exact hp_new _ (by simp)
    have hs_w0 : w0.heap.size = w.heap.size + 1 := by rw [← hq_w0]; simp
    have hw_w0 : Below w.heap.size w w0 := by rw [← hq_w0]; exact (Below.refl w.heap.size w).alloc (Nat.le_refl _) _
    rw [hq_w0]
    clear hq_w0
    clear hs_w0
    refine wp_region_calm (by kernel_rfl) (by kernel_rfl) ?_
    repeat (first
      | (refine calm_not rfl ?_
         simp only [Act.put, List.setIfInBounds_toArray, List.set_cons_zero, List.set_cons_succ])
      | (apply calm_pure rfl
         case h => (intro w1; go_simp; rfl)
         simp only [Act.put, List.setIfInBounds_toArray, List.set_cons_zero, List.set_cons_succ])
      | (apply calm_val rfl
         case h => (intro w1 hC; have cx := cell_of (keep hC (hp_drew hx)); clear hC; go_simp; rfl)
         simp only [Act.put, List.setIfInBounds_toArray, List.set_cons_zero, List.set_cons_succ]))
    refine calm_call rfl (fun w1 hC => by first | (go_simp; done) | (go_simp; rfl)) (fun w1 hC => norm_f x w1 Hx.out) ?_
    simp only [Act.put, List.setIfInBounds_toArray, List.set_cons_zero, List.set_cons_succ]
    repeat (first
      | (refine calm_not rfl ?_
         simp only [Act.put, List.setIfInBounds_toArray, List.set_cons_zero, List.set_cons_succ])
      | (apply calm_pure rfl
         case h => (intro w1; go_simp; rfl)
         simp only [Act.put, List.setIfInBounds_toArray, List.set_cons_zero, List.set_cons_succ])
      | (apply calm_val rfl
         case h => (intro w1 hC; have cx := cell_of (keep hC (hp_drew hx)); have c1 := he1 w1; clear hC; go_simp; rfl)
         simp only [Act.put, List.setIfInBounds_toArray, List.set_cons_zero, List.set_cons_succ]))
    refine wpQuiet_nil ?_
    intro w2 hC
    replace hw_w0 := below_tr hw_w0 hC
    clear hC
    go_wp2
    go_ret
    exact ⟨rfl, hw_w0⟩
  | true =>
    rw [hc1] at he1
    cases hc2 : eqN (fnorm y) y with
    | false =>
      rw [hc2] at he2
      clear hc1 hc2 he3 Hadd
      rw [Bool.true_and, Bool.false_and]
      go_enter Try.func14, Try.ntmps14
      go_wp2_with fail
      obtain ⟨w0, hq_w0⟩ : ∃ w0, (w.alloc (.cells #[.int .u64 (wd x 0), .int .u64 (wd x 1), .int .u64 (wd x 2), .int .u64 (wd x 3), .int .u64 (wd y 0), .int .u64 (wd y 1), .int .u64 (wd y 2), .int .u64 (wd y 3)] 28)) = w0 := ⟨_, rfl⟩
      have hx : w0.heap[w.heap.size]? = some (.cells #[.int .u64 (wd x 0), .int .u64 (wd x 1), .int .u64 (wd x 2), .int .u64 (wd x 3), .int .u64 (wd y 0), .int .u64 (wd y 1), .int .u64 (wd y 2), .int .u64 (wd y 3)] 28) := by rw [← hq_w0]; exact hp_new _ (by simp)
      have hs_w0 : w0.heap.size = w.heap.size + 1 := by rw [← hq_w0]; simp
      have hw_w0 : Below w.heap.size w w0 := by rw [← hq_w0]; exact (Below.refl w.heap.size w).alloc (Nat.le_refl _) _
      rw [hq_w0]
      clear hq_w0
      clear hs_w0
      refine wp_region_calm (by kernel_rfl) (by kernel_rfl) ?_
      repeat (first
        | (refine calm_not rfl ?_
           simp only [Act.put, List.setIfInBounds_toArray, List.set_cons_zero, List.set_cons_succ])
        | (apply calm_pure rfl
           case h => (intro w1; go_simp; rfl)
           simp only [Act.put, List.setIfInBounds_toArray, List.set_cons_zero, List.set_cons_succ])
        | (apply calm_val rfl
           case h => (intro w1 hC; have cx := cell_of (keep hC (hp_drew hx)); clear hC; go_simp; rfl)
           simp only [Act.put, List.setIfInBounds_toArray, List.set_cons_zero, List.set_cons_succ]))
      refine calm_call rfl (fun w1 hC => by first | (go_simp; done) | (go_simp; rfl)) (fun w1 hC => norm_f x w1 Hx.out) ?_
      simp only [Act.put, List.setIfInBounds_toArray, List.set_cons_zero, List.set_cons_succ]
      repeat (first
        | (refine calm_not rfl ?_
           simp only [Act.put, List.setIfInBounds_toArray, List.set_cons_zero, List.set_cons_succ])
        | (apply calm_pure rfl
           case h => (intro w1; go_simp; rfl)
           simp only [Act.put, List.setIfInBounds_toArray, List.set_cons_zero, List.set_cons_succ])
        | (apply calm_val rfl
           case h => (intro w1 hC; have cx := cell_of (keep hC (hp_drew hx)); have c1 := he1 w1; clear hC; go_simp; rfl)
           simp only [Act.put, List.setIfInBounds_toArray, List.set_cons_zero, List.set_cons_succ]))
      refine calm_call rfl (fun w1 hC => by first | (go_simp; done) | (go_simp; rfl)) (fun w1 hC => norm_f y w1 Hy.out) ?_
      simp only [Act.put, List.setIfInBounds_toArray, List.set_cons_zero, List.set_cons_succ]
      repeat (first
        | (refine calm_not rfl ?_
           simp only [Act.put, List.setIfInBounds_toArray, List.set_cons_zero, List.set_cons_succ])
        | (apply calm_pure rfl
           case h => (intro w1; go_simp; rfl)
           simp only [Act.put, List.setIfInBounds_toArray, List.set_cons_zero, List.set_cons_succ])
        | (apply calm_val rfl
           case h => (intro w1 hC; have cx := cell_of (keep hC (hp_drew hx)); have c1 := he2 w1; clear hC; go_simp; rfl)
           simp only [Act.put, List.setIfInBounds_toArray, List.set_cons_zero, List.set_cons_succ]))
      refine wpQuiet_nil ?_
      intro w2 hC
      replace hw_w0 := below_tr hw_w0 hC
      clear hC
      go_wp2
      go_ret
      exact ⟨rfl, hw_w0⟩
    | true =>
      rw [hc2] at he2
      clear hc1 hc2
      rw [Bool.true_and, Bool.true_and]
      go_enter Try.func14, Try.ntmps14
      go_wp2_with fail
      obtain ⟨w0, hq_w0⟩ : ∃ w0, (w.alloc (.cells #[.int .u64 (wd x 0), .int .u64 (wd x 1), .int .u64 (wd x 2), .int .u64 (wd x 3), .int .u64 (wd y 0), .int .u64 (wd y 1), .int .u64 (wd y 2), .int .u64 (wd y 3)] 28)) = w0 := ⟨_, rfl⟩
      have hx : w0.heap[w.heap.size]? = some (.cells #[.int .u64 (wd x 0), .int .u64 (wd x 1), .int .u64 (wd x 2), .int .u64 (wd x 3), .int .u64 (wd y 0), .int .u64 (wd y 1), .int .u64 (wd y 2), .int .u64 (wd y 3)] 28) := by rw [← hq_w0]; exact hp_new _ (by simp)
      have hs_w0 : w0.heap.size = w.heap.size + 1 := by rw [← hq_w0]; simp
      have hw_w0 : Below w.heap.size w w0 := by rw [← hq_w0]; exact (Below.refl w.heap.size w).alloc (Nat.le_refl _) _
      rw [hq_w0]
      clear hq_w0
      clear hs_w0
      refine wp_region_calm (by kernel_rfl) (by kernel_rfl) ?_
      repeat (first
        | (refine calm_not rfl ?_
           simp only [Act.put, List.setIfInBounds_toArray, List.set_cons_zero, List.set_cons_succ])
        | (apply calm_pure rfl
           case h => (intro w1; go_simp; rfl)
           simp only [Act.put, List.setIfInBounds_toArray, List.set_cons_zero, List.set_cons_succ])
        | (apply calm_val rfl
           case h => (intro w1 hC; have cx := cell_of (keep hC (hp_drew hx)); clear hC; go_simp; rfl)
           simp only [Act.put, List.setIfInBounds_toArray, List.set_cons_zero, List.set_cons_succ]))
      refine calm_call rfl (fun w1 hC => by first | (go_simp; done) | (go_simp; rfl)) (fun w1 hC => norm_f x w1 Hx.out) ?_
      simp only [Act.put, List.setIfInBounds_toArray, List.set_cons_zero, List.set_cons_succ]
      repeat (first
        | (refine calm_not rfl ?_
           simp only [Act.put, List.setIfInBounds_toArray, List.set_cons_zero, List.set_cons_succ])
        | (apply calm_pure rfl
           case h => (intro w1; go_simp; rfl)
           simp only [Act.put, List.setIfInBounds_toArray, List.set_cons_zero, List.set_cons_succ])
        | (apply calm_val rfl
           case h => (intro w1 hC; have cx := cell_of (keep hC (hp_drew hx)); have c1 := he1 w1; clear hC; go_simp; rfl)
           simp only [Act.put, List.setIfInBounds_toArray, List.set_cons_zero, List.set_cons_succ]))
      refine calm_call rfl (fun w1 hC => by first | (go_simp; done) | (go_simp; rfl)) (fun w1 hC => norm_f y w1 Hy.out) ?_
      simp only [Act.put, List.setIfInBounds_toArray, List.set_cons_zero, List.set_cons_succ]
      repeat (first
        | (refine calm_not rfl ?_
           simp only [Act.put, List.setIfInBounds_toArray, List.set_cons_zero, List.set_cons_succ])
        | (apply calm_pure rfl
           case h => (intro w1; go_simp; rfl)
           simp only [Act.put, List.setIfInBounds_toArray, List.set_cons_zero, List.set_cons_succ])
        | (apply calm_val rfl
           case h => (intro w1 hC; have cx := cell_of (keep hC (hp_drew hx)); have c1 := he2 w1; clear hC; go_simp; rfl)
           simp only [Act.put, List.setIfInBounds_toArray, List.set_cons_zero, List.set_cons_succ]))
      refine wpQuiet_nil ?_
      intro w2 hC
      replace hw_w0 := below_tr hw_w0 hC
      replace hx := keep hC (hp_drew hx)
      clear hC
      clear he1 he2
      go_wp2
      refine wp_region_mono 10 12 [] (fun _ => .cells #[.int .u64 0, .int .u64 0, .int .u64 0, .int .u64 0] 26) (by kernel_rfl) (by kernel_rfl) (fun _ _ _ _ _ h => h) ?_
      simp only [List.take_succ_cons, List.take_zero, List.drop_succ_cons, List.drop_zero]
      repeat (first
        | (apply head_pure rfl rfl rfl
           case h => (intro w1; go_simp; rfl)
           simp only [Act.put, List.setIfInBounds_toArray, List.set_cons_zero, List.set_cons_succ])
        | (apply head_val rfl rfl rfl rfl
           case h => (intro w1 hC; have cx := cell_of (keep hC (hp_drew hx)); clear hC; go_simp; rfl)
           simp only [Act.put, List.setIfInBounds_toArray, List.set_cons_zero, List.set_cons_succ]))
      refine head_call rfl rfl rfl rfl (fun w1 hC => by first | (go_simp; done) | (go_simp; rfl)) (fun w1 hC => mul_f x x w1 Hx.out Hx.out) ?_
      simp only [Act.put, List.setIfInBounds_toArray, List.set_cons_zero, List.set_cons_succ]
      repeat (first
        | (apply head_pure rfl rfl rfl
           case h => (intro w1; go_simp; rfl)
           simp only [Act.put, List.setIfInBounds_toArray, List.set_cons_zero, List.set_cons_succ])
        | (apply head_val rfl rfl rfl rfl
           case h => (intro w1 hC; have cx := cell_of (keep hC (hp_drew hx)); clear hC; go_simp; rfl)
           simp only [Act.put, List.setIfInBounds_toArray, List.set_cons_zero, List.set_cons_succ]))
      refine head_call rfl rfl rfl rfl (fun w1 hC => by first | (go_simp; done) | (go_simp; rfl)) (fun w1 hC => mul_f y y w1 Hy.out Hy.out) ?_
      simp only [Act.put, List.setIfInBounds_toArray, List.set_cons_zero, List.set_cons_succ]
      refine head_alloc rfl rfl rfl rfl (fun w1 => by first | (go_simp; done) | (go_simp; rfl)) (fun bX hbX => ?_)
      simp only [Act.put, List.setIfInBounds_toArray, List.set_cons_zero, List.set_cons_succ]
      refine head_alloc rfl rfl rfl rfl (fun w1 => by first | (go_simp; done) | (go_simp; rfl)) (fun bY hbY => ?_)
      simp only [Act.put, List.setIfInBounds_toArray, List.set_cons_zero, List.set_cons_succ]
      have lz := Go.Mono.lt_of_some (hp_drew hx)
      refine head_nil ?_
      intro w3 hC hown
      obtain ⟨hl_bX, hn_bX, hd_bX, hl_bY, hn_bY, hd_bY, -⟩ := hown
      replace hn_bX : w3.heap[bX]? = some (.cells #[.int .u64 0, .int .u64 0, .int .u64 0, .int .u64 0] 26) := hn_bX
      replace hl_bX : _ ≤ bX := hl_bX
      have ne_bY_bX : bY ≠ bX := hd_bX _ (List.Mem.head _)
      replace hn_bY : w3.heap[bY]? = some (.cells #[.int .u64 0, .int .u64 0, .int .u64 0, .int .u64 0] 26) := hn_bY
      replace hl_bY : _ ≤ bY := hl_bY
      clear hd_bX hd_bY
      have lX : w.heap.size < bX := by omega
      have lY : w.heap.size < bY := by omega
      clear lz hl_bX hl_bY hbX hbY
      replace hw_w0 := below_tr hw_w0 hC
      clear hC
      refine wpList_storeBlk 4 rfl rfl rfl rfl hn_bX rfl rfl (by kernel_rfl) (by kernel_rfl) ?_
      intro w4 s4
      simp only [Act.put]
      replace hw_w0 := s4.below hw_w0 (by omega)
      replace hn_bY := s4.other hn_bY (by omega)
      replace hn_bX := s4.at_
      clear s4
      refine wpList_storeBlk 4 rfl rfl rfl rfl hn_bY rfl rfl (by kernel_rfl) (by kernel_rfl) ?_
      intro w5 s5
      simp only [Act.put]
      replace hw_w0 := s5.below hw_w0 (by omega)
      replace hn_bX := s5.other hn_bX (by omega)
      replace hn_bY := s5.at_
      clear s5
      go_wp2
      refine wp_region_mono 11 11 [] (fun _ => default) (by kernel_rfl) (by kernel_rfl) (fun _ _ _ _ _ h => h) ?_
      simp only [List.take_succ_cons, List.take_zero, List.drop_succ_cons, List.drop_zero]
      repeat (first
        | (apply head_pure rfl rfl rfl
           case h => (intro w1; go_simp; rfl)
           simp only [Act.put, List.setIfInBounds_toArray, List.set_cons_zero, List.set_cons_succ])
        | (apply head_val rfl rfl rfl rfl
           case h => (intro w1 hC; have cX := cell_of (keep hC (hp_drew hn_bX)); have cY := cell_of (keep hC (hp_drew hn_bY)); clear hC; go_simp; rfl)
           simp only [Act.put, List.setIfInBounds_toArray, List.set_cons_zero, List.set_cons_succ]))
      refine head_call rfl rfl rfl rfl (fun w1 hC => by first | (go_simp; done) | (go_simp; rfl)) (fun w1 hC => sub_f (fmul y y) (fmul x x) w1 (lt_W (fmul_lt _ _)) (lt_W (fmul_lt _ _))) ?_
      simp only [Act.put, List.setIfInBounds_toArray, List.set_cons_zero, List.set_cons_succ]
      rw [show fsub (fmul y y) (fmul x x) = curveL x y from rfl]
      repeat
        (apply head_pure rfl rfl rfl
         case h => (intro w1; go_simp; rfl)
         simp only [Act.put, List.setIfInBounds_toArray, List.set_cons_zero, List.set_cons_succ])
      refine head_call rfl rfl rfl rfl (fun w1 hC => by first | (go_simp; done) | (go_simp; rfl)) (fun w1 hC => factor_any w1) ?_
      simp only [Act.put, List.setIfInBounds_toArray, List.set_cons_zero, List.set_cons_succ]
      repeat (first
        | (apply head_pure rfl rfl rfl
           case h => (intro w1; go_simp; rfl)
           simp only [Act.put, List.setIfInBounds_toArray, List.set_cons_zero, List.set_cons_succ])
        | (apply head_val rfl rfl rfl rfl
           case h => (intro w1 hC; have cX := cell_of (keep hC (hp_drew hn_bX)); have cY := cell_of (keep hC (hp_drew hn_bY)); clear hC; go_simp; rfl)
           simp only [Act.put, List.setIfInBounds_toArray, List.set_cons_zero, List.set_cons_succ]))
      refine head_call rfl rfl rfl rfl (fun w1 hC => by first | (go_simp; done) | (go_simp; rfl)) (fun w1 hC => mul_f (fmul x x) (fmul y y) w1 (lt_W (fmul_lt _ _)) (lt_W (fmul_lt _ _))) ?_
      simp only [Act.put, List.setIfInBounds_toArray, List.set_cons_zero, List.set_cons_succ]
      refine head_call rfl rfl rfl rfl (fun w1 hC => by first | (go_simp; done) | (go_simp; rfl)) (fun w1 hC => mul_f dd (fmul (fmul x x) (fmul y y)) w1 (lt_W dd_lt) (lt_W (fmul_lt _ _))) ?_
      simp only [Act.put, List.setIfInBounds_toArray, List.set_cons_zero, List.set_cons_succ]
      refine head_call rfl rfl rfl rfl (fun w1 hC => by first | (go_simp; done) | (go_simp; rfl)) (fun w1 hC => Hadd.out w1) ?_
      simp only [Act.put, List.setIfInBounds_toArray, List.set_cons_zero, List.set_cons_succ]
      rw [show fadd 1 (fmul dd (fmul (fmul x x) (fmul y y))) = curveR x y from rfl]
      repeat (first
        | (apply head_pure rfl rfl rfl
           case h => (intro w1; go_simp; rfl)
           simp only [Act.put, List.setIfInBounds_toArray, List.set_cons_zero, List.set_cons_succ])
        | (apply head_val rfl rfl rfl rfl
           case h => (intro w1 hC; have c1 := he3 w1; clear hC; go_simp; rfl)
           simp only [Act.put, List.setIfInBounds_toArray, List.set_cons_zero, List.set_cons_succ]))
      refine head_nil ?_
      intro w6 hC _
      replace hw_w0 := below_tr hw_w0 hC
      clear hC
      clear he3
      go_wp2
      go_ret
      exact ⟨rfl, hw_w0⟩
end Go.Proofs.Ytdhaedjmlddjcaa
