/- r6.FromPoint of a text of another length, r6.Base, r6.Order, r6.On: what each call comes to. No conditions beyond the sizes. -/
import Derived.Test.YtdhaedjmlddjcaaRefJ
namespace Go.Num
open Go Go.RowKit
def ordN : Nat := 7237005577332262213973186563042994240857116359379907606001950938285454250989
theorem num_ord : num ordN = .agg #[.int .u64 6346243789798364141, .int .u64 1503914060200516822, .int .u64 0, .int .u64 1152921504606846976] :=
  num_of (by decide +kernel) (by decide +kernel) (by decide +kernel) (by decide +kernel)
theorem num_four : num 4 = .agg #[.int .u64 4, .int .u64 0, .int .u64 0, .int .u64 0] :=
  num_of (by decide +kernel) (by decide +kernel) (by decide +kernel) (by decide +kernel)
theorem num_five : num 5 = .agg #[.int .u64 5, .int .u64 0, .int .u64 0, .int .u64 0] :=
  num_of (by decide +kernel) (by decide +kernel) (by decide +kernel) (by decide +kernel)
end Go.Num
namespace Go.Proofs.Ytdhaedjmlddjcaa
open Go.RowKit Go.Mono Go.Num
set_option maxHeartbeats 400000 in
theorem rfrom_short (s : ByteArray) (w : World) (hs : ¬ s.size = 32) :
    Calls Try.prog 24 #[.string s] w fun e w' => e = .returned (spotv 0 0 false) ∧ Below w.heap.size w w' := by
  have hs' : ¬ (s.size : Int) = 32 := by omega
  rw [spotv_zero]
  go_enter Try.func24, Try.ntmps24
  go_wp2_with fail
  exact bodyPost_ret (v := .agg #[.int .u64 0, .int .u64 0, .int .u64 0, .int .u64 0, .int .u64 0, .int .u64 0, .int .u64 0, .int .u64 0, .bool false]) (by simp [results, Try.results24, go_sem]) rfl ⟨rfl, (Below.refl _ _).alloc (Nat.le_refl _) _⟩
set_option maxHeartbeats 400000 in
theorem rorder_any (w : World) :
    Calls Try.prog 27 #[] w fun e w' => e = .returned (num ordN) ∧ Below w.heap.size w w' := by
  rw [num_ord]
  go_enter Try.func27, Try.ntmps27
  go_wp2
  exact bodyPost_ret (v := .agg #[.int .u64 6346243789798364141, .int .u64 1503914060200516822, .int .u64 0, .int .u64 1152921504606846976]) (by simp [results, Try.results27, go_sem]) rfl ⟨rfl, (Below.refl _ _).alloc (Nat.le_refl _) _⟩
def bf : Nat → Nat := byteAt (fnorm (fmul 4 (finv 5)))
theorem bf_lt (j : Nat) : bf j < 256 := byteAt_lt _ _
theorem bf_ok : rfOk bf = true := by decide +kernel
theorem bf_x : rfX bf = baseX := by decide +kernel
theorem bf_y : rfY bf = baseY := by decide +kernel
theorem run_spotP (x y : Nat) (b : Bool) (w : World) : (Instr.field 46 (spotv x y b) 0).run Try.prog w = .ok (pt x y) w := by kernel_rfl
set_option maxHeartbeats 400000 in
theorem rbase_any (w : World) :
    Calls Try.prog 26 #[] w fun e w' => e = .returned (pt baseX baseY) ∧ Below w.heap.size w w' := by
  have hi := fun w => rinv_any 5 w (by decide)
  have hm := fun w => rmulf_any 4 (finv 5) w (by decide) (lt_W (finv_lt _))
  rw [num_five] at hi
  rw [num_four] at hm
  have hb := fun w => rbytes_any (fmul 4 (finv 5)) w (lt_W (fmul_lt _ _))
  have hf := fun w => rfrom_any bf w bf_lt
  rw [bf_ok, if_pos rfl, if_pos rfl, bf_x, bf_y] at hf
  replace hb : ∀ w, Calls Try.prog 42 #[num (fmul 4 (finv 5))] w fun e w' => e = .returned (.string (bstr bf 32)) ∧ Below w.heap.size w w' := hb
  generalize bstr bf 32 = T at *
  generalize fmul 4 (finv 5) = M at *
  generalize finv 5 = I at *
  generalize baseX = BX at *
  generalize baseY = BY at *
  go_enter Try.func26, Try.ntmps26
  go_wp2_with fail
  obtain ⟨w0, hq_w0⟩ : ∃ w0, (w.alloc (.cells #[.int .u64 0, .int .u64 0, .int .u64 0, .int .u64 0, .int .u64 0, .int .u64 0, .int .u64 0, .int .u64 0] 28)) = w0 := ⟨_, rfl⟩
  have hR : w0.heap[w.heap.size]? = some (.cells #[.int .u64 0, .int .u64 0, .int .u64 0, .int .u64 0, .int .u64 0, .int .u64 0, .int .u64 0, .int .u64 0] 28) := by rw [← hq_w0]; exact hp_new _ (by simp)
  have hs_w0 : w0.heap.size = w.heap.size + 1 := by rw [← hq_w0]; simp
  have hw_w0 : Below w.heap.size w w0 := by rw [← hq_w0]; exact (Below.refl w.heap.size w).alloc (Nat.le_refl _) _
  rw [hq_w0]
  clear hq_w0
  clear hs_w0
  refine (hi _).mono ?_
  rintro e w1 ⟨rfl, hb1⟩
  replace hw_w0 := below_tr' hw_w0 hb1
  replace hR := keep hb1 hR
  clear hb1
  go_wp2_with fail
  refine (hm _).mono ?_
  rintro e w2 ⟨rfl, hb1⟩
  replace hw_w0 := below_tr' hw_w0 hb1
  replace hR := keep hb1 hR
  clear hb1
  go_wp2_with fail
  refine (hb _).mono ?_
  rintro e w3 ⟨rfl, hb1⟩
  replace hw_w0 := below_tr' hw_w0 hb1
  replace hR := keep hb1 hR
  clear hb1
  go_wp2_with fail
  refine (hf _).mono ?_
  rintro e w4 ⟨rfl, hb1⟩
  replace hw_w0 := below_tr' hw_w0 hb1
  replace hR := keep hb1 hR
  clear hb1
  have hfd := run_spotP BX BY true w4
  go_wp2_with (first | (refine wpList_storeBlk 8 rfl rfl rfl rfl hR rfl rfl (by kernel_rfl) (by kernel_rfl) ?_; intro w20 s20; simp only [Act.put]))
  exact bodyPost_ret (results_blk Try.results26 rfl s20.at_ Try.underlying28 rfl (by kernel_rfl)) rfl ⟨rfl, s20.below hw_w0 (by omega)⟩
theorem norm_lt_iff {x : Nat} : eqN (fnorm x) x = decide (x < p) := by
  unfold eqN fnorm
  refine decide_eq_decide.2 ⟨fun h => by rw [← h]; exact Nat.mod_lt _ p_pos, fun h => Nat.mod_eq_of_lt h⟩
set_option maxHeartbeats 1000000 in
theorem ron_any (x y : Nat) (w : World) (hx : x < W ^ 4) (hy : y < W ^ 4) :
    Calls Try.prog 25 #[pt x y] w fun e w' => e = .returned (.bool (onB x y)) ∧ Below w.heap.size w w' := by
  have hP := fun w => rprime_any w
  have hl1 := fun w => rless_any x p w hx p_lt
  have hl2 := fun w => rless_any y p w hy p_lt
  have he3 := fun w => eq_num (curveL x y) (curveR x y) w (lt_W (fsub_lt _ _)) (lt_W (fadd_lt _ _))
  have hadd := fun w => radd_any 1 (fmul dd (fmul (fmul x x) (fmul y y))) w (lt_W one_lt) (lt_W (fmul_lt _ _))
  rw [num_one] at hadd
  have Hadd := Lib.hid hadd
  have Hx := Lib.hid hx
  have Hy := Lib.hid hy
  clear hx hy hadd
  unfold onB
  rw [norm_lt_iff, norm_lt_iff]
  generalize num p = PP at *
  cases hc1 : decide (x < p) with
  | false =>
    rw [hc1] at hl1
    clear hc1 hl2 he3 Hadd
    rw [Bool.false_and]
    go_enter Try.func25, Try.ntmps25
    go_wp2_with fail
    obtain ⟨w0, hq_w0⟩ : ∃ w0, (w.alloc (.cells #[.int .u64 (wd x 0), .int .u64 (wd x 1), .int .u64 (wd x 2), .int .u64 (wd x 3), .int .u64 (wd y 0), .int .u64 (wd y 1), .int .u64 (wd y 2), .int .u64 (wd y 3)] 28)) = w0 := ⟨_, rfl⟩
    have hx : w0.heap[w.heap.size]? = some (.cells #[.int .u64 (wd x 0), .int .u64 (wd x 1), .int .u64 (wd x 2), .int .u64 (wd x 3), .int .u64 (wd y 0), .int .u64 (wd y 1), .int .u64 (wd y 2), .int .u64 (wd y 3)] 28) := by rw [← hq_w0]; exact hp_new _ (by simp)
    have hs_w0 : w0.heap.size = w.heap.size + 1 := by rw [← hq_w0]; simp
    have hw_w0 : Below w.heap.size w w0 := by rw [← hq_w0]; exact (Below.refl w.heap.size w).alloc (Nat.le_refl _) _
    rw [hq_w0]
    clear hq_w0
    clear hs_w0
    refine wp_region_calm (by kernel_rfl) (by kernel_rfl) ?_
    repeat (first
      | (refine calm_not rfl ?_
         simp only [Act.put, List.setIfInBounds_toArray, List.set_cons_zero, List.set_cons_succ])
      | (apply calm_pure rfl
         case h => (intro w1; go_simp; rfl)
         simp only [Act.put, List.setIfInBounds_toArray, List.set_cons_zero, List.set_cons_succ])
      | (apply calm_val rfl
         case h => (intro w1 hC; have cx := cell_of (keep hC (hp_drew hx)); clear hC; go_simp; rfl)
         simp only [Act.put, List.setIfInBounds_toArray, List.set_cons_zero, List.set_cons_succ]))
    refine calm_call rfl (fun w1 hC => by first | (go_simp; done) | (go_simp; rfl)) (fun w1 hC => hP w1) ?_
    simp only [Act.put, List.setIfInBounds_toArray, List.set_cons_zero, List.set_cons_succ]
    refine calm_call rfl (fun w1 hC => by first | (go_simp; done) | (go_simp; rfl)) (fun w1 hC => hl1 w1) ?_
    simp only [Act.put, List.setIfInBounds_toArray, List.set_cons_zero, List.set_cons_succ]
    repeat (first
      | (refine calm_not rfl ?_
         simp only [Act.put, List.setIfInBounds_toArray, List.set_cons_zero, List.set_cons_succ])
      | (apply calm_pure rfl
         case h => (intro w1; go_simp; rfl)
         simp only [Act.put, List.setIfInBounds_toArray, List.set_cons_zero, List.set_cons_succ])
      | (apply calm_val rfl
         case h => (intro w1 hC; have cx := cell_of (keep hC (hp_drew hx)); clear hC; go_simp; rfl)
         simp only [Act.put, List.setIfInBounds_toArray, List.set_cons_zero, List.set_cons_succ]))
    refine wpQuiet_nil ?_
    intro w2 hC
    replace hw_w0 := below_tr hw_w0 hC
    clear hC
    go_wp2
    go_ret
    exact ⟨rfl, hw_w0⟩
  | true =>
    rw [hc1] at hl1
    cases hc2 : decide (y < p) with
    | false =>
      rw [hc2] at hl2
      clear hc1 hc2 he3 Hadd
      rw [Bool.true_and, Bool.false_and]
      go_enter Try.func25, Try.ntmps25
      go_wp2_with fail
      obtain ⟨w0, hq_w0⟩ : ∃ w0, (w.alloc (.cells #[.int .u64 (wd x 0), .int .u64 (wd x 1), .int .u64 (wd x 2), .int .u64 (wd x 3), .int .u64 (wd y 0), .int .u64 (wd y 1), .int .u64 (wd y 2), .int .u64 (wd y 3)] 28)) = w0 := ⟨_, rfl⟩
      have hx : w0.heap[w.heap.size]? = some (.cells #[.int .u64 (wd x 0), .int .u64 (wd x 1), .int .u64 (wd x 2), .int .u64 (wd x 3), .int .u64 (wd y 0), .int .u64 (wd y 1), .int .u64 (wd y 2), .int .u64 (wd y 3)] 28) := by rw [← hq_w0]; exact hp_new _ (by simp)
      have hs_w0 : w0.heap.size = w.heap.size + 1 := by rw [← hq_w0]; simp
      have hw_w0 : Below w.heap.size w w0 := by rw [← hq_w0]; exact (Below.refl w.heap.size w).alloc (Nat.le_refl _) _
      rw [hq_w0]
      clear hq_w0
      clear hs_w0
      refine wp_region_calm (by kernel_rfl) (by kernel_rfl) ?_
      repeat (first
        | (refine calm_not rfl ?_
           simp only [Act.put, List.setIfInBounds_toArray, List.set_cons_zero, List.set_cons_succ])
        | (apply calm_pure rfl
           case h => (intro w1; go_simp; rfl)
           simp only [Act.put, List.setIfInBounds_toArray, List.set_cons_zero, List.set_cons_succ])
        | (apply calm_val rfl
           case h => (intro w1 hC; have cx := cell_of (keep hC (hp_drew hx)); clear hC; go_simp; rfl)
           simp only [Act.put, List.setIfInBounds_toArray, List.set_cons_zero, List.set_cons_succ]))
      refine calm_call rfl (fun w1 hC => by first | (go_simp; done) | (go_simp; rfl)) (fun w1 hC => hP w1) ?_
      simp only [Act.put, List.setIfInBounds_toArray, List.set_cons_zero, List.set_cons_succ]
      refine calm_call rfl (fun w1 hC => by first | (go_simp; done) | (go_simp; rfl)) (fun w1 hC => hl1 w1) ?_
      simp only [Act.put, List.setIfInBounds_toArray, List.set_cons_zero, List.set_cons_succ]
      repeat (first
        | (refine calm_not rfl ?_
           simp only [Act.put, List.setIfInBounds_toArray, List.set_cons_zero, List.set_cons_succ])
        | (apply calm_pure rfl
           case h => (intro w1; go_simp; rfl)
           simp only [Act.put, List.setIfInBounds_toArray, List.set_cons_zero, List.set_cons_succ])
        | (apply calm_val rfl
           case h => (intro w1 hC; have cx := cell_of (keep hC (hp_drew hx)); clear hC; go_simp; rfl)
           simp only [Act.put, List.setIfInBounds_toArray, List.set_cons_zero, List.set_cons_succ]))
      refine calm_call rfl (fun w1 hC => by first | (go_simp; done) | (go_simp; rfl)) (fun w1 hC => hP w1) ?_
      simp only [Act.put, List.setIfInBounds_toArray, List.set_cons_zero, List.set_cons_succ]
      refine calm_call rfl (fun w1 hC => by first | (go_simp; done) | (go_simp; rfl)) (fun w1 hC => hl2 w1) ?_
      simp only [Act.put, List.setIfInBounds_toArray, List.set_cons_zero, List.set_cons_succ]
      repeat (first
        | (refine calm_not rfl ?_
           simp only [Act.put, List.setIfInBounds_toArray, List.set_cons_zero, List.set_cons_succ])
        | (apply calm_pure rfl
           case h => (intro w1; go_simp; rfl)
           simp only [Act.put, List.setIfInBounds_toArray, List.set_cons_zero, List.set_cons_succ])
        | (apply calm_val rfl
           case h => (intro w1 hC; have cx := cell_of (keep hC (hp_drew hx)); clear hC; go_simp; rfl)
           simp only [Act.put, List.setIfInBounds_toArray, List.set_cons_zero, List.set_cons_succ]))
      refine wpQuiet_nil ?_
      intro w2 hC
      replace hw_w0 := below_tr hw_w0 hC
      clear hC
      go_wp2
      go_ret
      exact ⟨rfl, hw_w0⟩
    | true =>
      rw [hc2] at hl2
      clear hc1 hc2
      rw [Bool.true_and, Bool.true_and]
      go_enter Try.func25, Try.ntmps25
      go_wp2_with fail
      obtain ⟨w0, hq_w0⟩ : ∃ w0, (w.alloc (.cells #[.int .u64 (wd x 0), .int .u64 (wd x 1), .int .u64 (wd x 2), .int .u64 (wd x 3), .int .u64 (wd y 0), .int .u64 (wd y 1), .int .u64 (wd y 2), .int .u64 (wd y 3)] 28)) = w0 := ⟨_, rfl⟩
      have hx : w0.heap[w.heap.size]? = some (.cells #[.int .u64 (wd x 0), .int .u64 (wd x 1), .int .u64 (wd x 2), .int .u64 (wd x 3), .int .u64 (wd y 0), .int .u64 (wd y 1), .int .u64 (wd y 2), .int .u64 (wd y 3)] 28) := by rw [← hq_w0]; exact hp_new _ (by simp)
      have hs_w0 : w0.heap.size = w.heap.size + 1 := by rw [← hq_w0]; simp
      have hw_w0 : Below w.heap.size w w0 := by rw [← hq_w0]; exact (Below.refl w.heap.size w).alloc (Nat.le_refl _) _
      rw [hq_w0]
      clear hq_w0
      clear hs_w0
      refine wp_region_calm (by kernel_rfl) (by kernel_rfl) ?_
      repeat (first
        | (refine calm_not rfl ?_
           simp only [Act.put, List.setIfInBounds_toArray, List.set_cons_zero, List.set_cons_succ])
        | (apply calm_pure rfl
           case h => (intro w1; go_simp; rfl)
           simp only [Act.put, List.setIfInBounds_toArray, List.set_cons_zero, List.set_cons_succ])
        | (apply calm_val rfl
           case h => (intro w1 hC; have cx := cell_of (keep hC (hp_drew hx)); clear hC; go_simp; rfl)
           simp only [Act.put, List.setIfInBounds_toArray, List.set_cons_zero, List.set_cons_succ]))
      refine calm_call rfl (fun w1 hC => by first | (go_simp; done) | (go_simp; rfl)) (fun w1 hC => hP w1) ?_
      simp only [Act.put, List.setIfInBounds_toArray, List.set_cons_zero, List.set_cons_succ]
      refine calm_call rfl (fun w1 hC => by first | (go_simp; done) | (go_simp; rfl)) (fun w1 hC => hl1 w1) ?_
      simp only [Act.put, List.setIfInBounds_toArray, List.set_cons_zero, List.set_cons_succ]
      repeat (first
        | (refine calm_not rfl ?_
           simp only [Act.put, List.setIfInBounds_toArray, List.set_cons_zero, List.set_cons_succ])
        | (apply calm_pure rfl
           case h => (intro w1; go_simp; rfl)
           simp only [Act.put, List.setIfInBounds_toArray, List.set_cons_zero, List.set_cons_succ])
        | (apply calm_val rfl
           case h => (intro w1 hC; have cx := cell_of (keep hC (hp_drew hx)); clear hC; go_simp; rfl)
           simp only [Act.put, List.setIfInBounds_toArray, List.set_cons_zero, List.set_cons_succ]))
      refine calm_call rfl (fun w1 hC => by first | (go_simp; done) | (go_simp; rfl)) (fun w1 hC => hP w1) ?_
      simp only [Act.put, List.setIfInBounds_toArray, List.set_cons_zero, List.set_cons_succ]
      refine calm_call rfl (fun w1 hC => by first | (go_simp; done) | (go_simp; rfl)) (fun w1 hC => hl2 w1) ?_
      simp only [Act.put, List.setIfInBounds_toArray, List.set_cons_zero, List.set_cons_succ]
      repeat (first
        | (refine calm_not rfl ?_
           simp only [Act.put, List.setIfInBounds_toArray, List.set_cons_zero, List.set_cons_succ])
        | (apply calm_pure rfl
           case h => (intro w1; go_simp; rfl)
           simp only [Act.put, List.setIfInBounds_toArray, List.set_cons_zero, List.set_cons_succ])
        | (apply calm_val rfl
           case h => (intro w1 hC; have cx := cell_of (keep hC (hp_drew hx)); clear hC; go_simp; rfl)
           simp only [Act.put, List.setIfInBounds_toArray, List.set_cons_zero, List.set_cons_succ]))
      refine wpQuiet_nil ?_
      intro w2 hC
      replace hw_w0 := below_tr hw_w0 hC
      replace hx := keep hC (hp_drew hx)
      clear hC
      clear hl1 hl2 hP
      go_wp2
      refine wp_region_mono 10 12 [] (fun _ => .cells #[.int .u64 0, .int .u64 0, .int .u64 0, .int .u64 0] 26) (by kernel_rfl) (by kernel_rfl) (fun _ _ _ _ _ h => h) ?_
      simp only [List.take_succ_cons, List.take_zero, List.drop_succ_cons, List.drop_zero]
      repeat (first
        | (apply head_pure rfl rfl rfl
           case h => (intro w1; go_simp; rfl)
           simp only [Act.put, List.setIfInBounds_toArray, List.set_cons_zero, List.set_cons_succ])
        | (apply head_val rfl rfl rfl rfl
           case h => (intro w1 hC; have cx := cell_of (keep hC (hp_drew hx)); clear hC; go_simp; rfl)
           simp only [Act.put, List.setIfInBounds_toArray, List.set_cons_zero, List.set_cons_succ]))
      refine head_call rfl rfl rfl rfl (fun w1 hC => by first | (go_simp; done) | (go_simp; rfl)) (fun w1 hC => rmulf_any x x w1 Hx.out Hx.out) ?_
      simp only [Act.put, List.setIfInBounds_toArray, List.set_cons_zero, List.set_cons_succ]
      repeat (first
        | (apply head_pure rfl rfl rfl
           case h => (intro w1; go_simp; rfl)
           simp only [Act.put, List.setIfInBounds_toArray, List.set_cons_zero, List.set_cons_succ])
        | (apply head_val rfl rfl rfl rfl
           case h => (intro w1 hC; have cx := cell_of (keep hC (hp_drew hx)); clear hC; go_simp; rfl)
           simp only [Act.put, List.setIfInBounds_toArray, List.set_cons_zero, List.set_cons_succ]))
      refine head_call rfl rfl rfl rfl (fun w1 hC => by first | (go_simp; done) | (go_simp; rfl)) (fun w1 hC => rmulf_any y y w1 Hy.out Hy.out) ?_
      simp only [Act.put, List.setIfInBounds_toArray, List.set_cons_zero, List.set_cons_succ]
      refine head_alloc rfl rfl rfl rfl (fun w1 => by first | (go_simp; done) | (go_simp; rfl)) (fun bX hbX => ?_)
      simp only [Act.put, List.setIfInBounds_toArray, List.set_cons_zero, List.set_cons_succ]
      refine head_alloc rfl rfl rfl rfl (fun w1 => by first | (go_simp; done) | (go_simp; rfl)) (fun bY hbY => ?_)
      simp only [Act.put, List.setIfInBounds_toArray, List.set_cons_zero, List.set_cons_succ]
      have lz := Go.Mono.lt_of_some (hp_drew hx)
      refine head_nil ?_
      intro w3 hC hown
      obtain ⟨hl_bX, hn_bX, hd_bX, hl_bY, hn_bY, hd_bY, -⟩ := hown
      replace hn_bX : w3.heap[bX]? = some (.cells #[.int .u64 0, .int .u64 0, .int .u64 0, .int .u64 0] 26) := hn_bX
      replace hl_bX : _ ≤ bX := hl_bX
      have ne_bY_bX : bY ≠ bX := hd_bX _ (List.Mem.head _)
      replace hn_bY : w3.heap[bY]? = some (.cells #[.int .u64 0, .int .u64 0, .int .u64 0, .int .u64 0] 26) := hn_bY
      replace hl_bY : _ ≤ bY := hl_bY
      clear hd_bX hd_bY
      have lX : w.heap.size < bX := by omega
      have lY : w.heap.size < bY := by omega
      clear lz hl_bX hl_bY hbX hbY
      replace hw_w0 := below_tr hw_w0 hC
      clear hC
      refine wpList_storeBlk 4 rfl rfl rfl rfl hn_bX rfl rfl (by kernel_rfl) (by kernel_rfl) ?_
      intro w4 s4
      simp only [Act.put]
      replace hw_w0 := s4.below hw_w0 (by omega)
      replace hn_bY := s4.other hn_bY (by omega)
      replace hn_bX := s4.at_
      clear s4
      refine wpList_storeBlk 4 rfl rfl rfl rfl hn_bY rfl rfl (by kernel_rfl) (by kernel_rfl) ?_
      intro w5 s5
      simp only [Act.put]
      replace hw_w0 := s5.below hw_w0 (by omega)
      replace hn_bX := s5.other hn_bX (by omega)
      replace hn_bY := s5.at_
      clear s5
      go_wp2
      refine wp_region_mono 11 11 [] (fun _ => default) (by kernel_rfl) (by kernel_rfl) (fun _ _ _ _ _ h => h) ?_
      simp only [List.take_succ_cons, List.take_zero, List.drop_succ_cons, List.drop_zero]
      repeat (first
        | (apply head_pure rfl rfl rfl
           case h => (intro w1; go_simp; rfl)
           simp only [Act.put, List.setIfInBounds_toArray, List.set_cons_zero, List.set_cons_succ])
        | (apply head_val rfl rfl rfl rfl
           case h => (intro w1 hC; have cX := cell_of (keep hC (hp_drew hn_bX)); have cY := cell_of (keep hC (hp_drew hn_bY)); clear hC; go_simp; rfl)
           simp only [Act.put, List.setIfInBounds_toArray, List.set_cons_zero, List.set_cons_succ]))
      refine head_call rfl rfl rfl rfl (fun w1 hC => by first | (go_simp; done) | (go_simp; rfl)) (fun w1 hC => rsub_any (fmul y y) (fmul x x) w1 (lt_W (fmul_lt _ _)) (lt_W (fmul_lt _ _))) ?_
      simp only [Act.put, List.setIfInBounds_toArray, List.set_cons_zero, List.set_cons_succ]
      rw [show fsub (fmul y y) (fmul x x) = curveL x y from rfl]
      repeat
        (apply head_pure rfl rfl rfl
         case h => (intro w1; go_simp; rfl)
         simp only [Act.put, List.setIfInBounds_toArray, List.set_cons_zero, List.set_cons_succ])
      refine head_call rfl rfl rfl rfl (fun w1 hC => by first | (go_simp; done) | (go_simp; rfl)) (fun w1 hC => rd_any w1) ?_
      simp only [Act.put, List.setIfInBounds_toArray, List.set_cons_zero, List.set_cons_succ]
      repeat (first
        | (apply head_pure rfl rfl rfl
           case h => (intro w1; go_simp; rfl)
           simp only [Act.put, List.setIfInBounds_toArray, List.set_cons_zero, List.set_cons_succ])
        | (apply head_val rfl rfl rfl rfl
           case h => (intro w1 hC; have cX := cell_of (keep hC (hp_drew hn_bX)); have cY := cell_of (keep hC (hp_drew hn_bY)); clear hC; go_simp; rfl)
           simp only [Act.put, List.setIfInBounds_toArray, List.set_cons_zero, List.set_cons_succ]))
      refine head_call rfl rfl rfl rfl (fun w1 hC => by first | (go_simp; done) | (go_simp; rfl)) (fun w1 hC => rmulf_any (fmul x x) (fmul y y) w1 (lt_W (fmul_lt _ _)) (lt_W (fmul_lt _ _))) ?_
      simp only [Act.put, List.setIfInBounds_toArray, List.set_cons_zero, List.set_cons_succ]
      refine head_call rfl rfl rfl rfl (fun w1 hC => by first | (go_simp; done) | (go_simp; rfl)) (fun w1 hC => rmulf_any dd (fmul (fmul x x) (fmul y y)) w1 (lt_W dd_lt) (lt_W (fmul_lt _ _))) ?_
      simp only [Act.put, List.setIfInBounds_toArray, List.set_cons_zero, List.set_cons_succ]
      refine head_call rfl rfl rfl rfl (fun w1 hC => by first | (go_simp; done) | (go_simp; rfl)) (fun w1 hC => Hadd.out w1) ?_
      simp only [Act.put, List.setIfInBounds_toArray, List.set_cons_zero, List.set_cons_succ]
      rw [show fadd 1 (fmul dd (fmul (fmul x x) (fmul y y))) = curveR x y from rfl]
      repeat (first
        | (apply head_pure rfl rfl rfl
           case h => (intro w1; go_simp; rfl)
           simp only [Act.put, List.setIfInBounds_toArray, List.set_cons_zero, List.set_cons_succ])
        | (apply head_val rfl rfl rfl rfl
           case h => (intro w1 hC; have c1 := he3 w1; clear hC; go_simp; rfl)
           simp only [Act.put, List.setIfInBounds_toArray, List.set_cons_zero, List.set_cons_succ]))
      refine head_nil ?_
      intro w6 hC _
      replace hw_w0 := below_tr hw_w0 hC
      clear hC
      clear he3
      go_wp2
      go_ret
      exact ⟨rfl, hw_w0⟩
end Go.Proofs.Ytdhaedjmlddjcaa
