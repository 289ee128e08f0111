/- point.across. No conditions beyond the size. -/
import Derived.Test.YtdhaedjmlddjcaaRoot
namespace Go.Proofs.Ytdhaedjmlddjcaa
open Go.RowKit Go.Mono Go.Num
def acrossA (y : Nat) : Nat := fmul (fsub (fmul y y) 1) (finv (fadd (fmul dd (fmul y y)) 1))
theorem acrossA_lt (y : Nat) : acrossA y < p := fmul_lt _ _
set_option maxHeartbeats 400000 in
theorem across_any (y : Nat) (w : World) (hy : y < W ^ 4) :
    Calls Try.prog 48 #[num y] w fun e w' => e = .returned (.tuple #[num (rootN (acrossA y)), .bool (rootOk (acrossA y))]) ∧ Below w.heap.size w w' := by
  have hr := fun w => root_any (acrossA y) w (lt_W (acrossA_lt y))
  have h1 := fun w => mul_f y y w hy hy
  unfold acrossA at *
  have hyy := lt_W (fmul_lt y y)
  generalize fmul y y = YY at *
  have h2 := fun w => mul_f dd YY w (by decide) hyy
  have h3 := fun w => add_f (fmul dd YY) 1 w (lt_W (fmul_lt _ _)) (by decide)
  have h4 := fun w => sub_f YY 1 w hyy (by decide)
  have h5 := fun w => inv_f (fadd (fmul dd YY) 1) w (lt_W (fadd_lt _ _))
  have h6 := fun w => mul_f (fsub YY 1) (finv (fadd (fmul dd YY) 1)) w (lt_W (fsub_lt _ _)) (lt_W (finv_lt _))
  have hf := fun w => factor_any w
  rw [num_one] at h3 h4
  generalize num dd = DD at *
  clear hyy hy
  generalize fmul (fsub YY 1) (finv (fadd (fmul dd YY) 1)) = Z at *
  generalize finv (fadd (fmul dd YY) 1) = I at *
  generalize fadd (fmul dd YY) 1 = D at *
  generalize fmul dd YY = DY at *
  generalize fsub YY 1 = Y1 at *
  generalize rootN Z = RN at *
  generalize rootOk Z = RO at *
  go_enter Try.func48, Try.ntmps48
  go_wp2_with fail
  obtain ⟨w0, hq_w0⟩ : ∃ w0, ((w.alloc (.cells #[.int .u64 (wd y 0), .int .u64 (wd y 1), .int .u64 (wd y 2), .int .u64 (wd y 3)] 26)).alloc (.cells #[.int .u64 0, .int .u64 0, .int .u64 0, .int .u64 0] 26)) = w0 := ⟨_, rfl⟩
  have hY : w0.heap[w.heap.size]? = some (.cells #[.int .u64 (wd y 0), .int .u64 (wd y 1), .int .u64 (wd y 2), .int .u64 (wd y 3)] 26) := by rw [← hq_w0]; exact hp_old _ (hp_new _ (by simp))
  have hR : w0.heap[w.heap.size + 1]? = some (.cells #[.int .u64 0, .int .u64 0, .int .u64 0, .int .u64 0] 26) := by rw [← hq_w0]; exact hp_new _ (by simp)
  have hs_w0 : w0.heap.size = w.heap.size + 2 := by rw [← hq_w0]; simp
  have hw_w0 : Below w.heap.size w w0 := by rw [← hq_w0]; exact ((Below.refl w.heap.size w).alloc (Nat.le_refl _) _).alloc (by simp) _
  rw [hq_w0]
  clear hq_w0
  refine (h1 _).mono ?_
  rintro e w1 ⟨rfl, hb⟩
  have hlR := Go.Mono.lt_of_some hR
  replace hw_w0 := below_tr' hw_w0 hb
  replace hR := keep hb hR
  clear hb
  have hlR4 := Go.Mono.lt_of_some hR
  go_wp2_with fail
  obtain ⟨w2, hq_w2⟩ : ∃ w2, (w1.alloc (.cells #[.int .u64 (wd YY 0), .int .u64 (wd YY 1), .int .u64 (wd YY 2), .int .u64 (wd YY 3)] 26)) = w2 := ⟨_, rfl⟩
  have hX : w2.heap[w1.heap.size]? = some (.cells #[.int .u64 (wd YY 0), .int .u64 (wd YY 1), .int .u64 (wd YY 2), .int .u64 (wd YY 3)] 26) := by rw [← hq_w2]; exact hp_new _ (by simp)
  have hs_w2 : w2.heap.size = w1.heap.size + 1 := by rw [← hq_w2]; simp
  have hw_w2 : Below w1.heap.size w1 w2 := by rw [← hq_w2]; exact (Below.refl w1.heap.size w1).alloc (Nat.le_refl _) _
  rw [hq_w2]
  clear hq_w2
  replace hw_w0 := below_tr' hw_w0 hw_w2
  replace hR := keep hw_w2 hR
  clear hw_w2
  have hlX : w.heap.size + 1 < w1.heap.size := by omega
  generalize w1.heap.size = bX at *
  refine wp_region_mono 5 6 [] (fun _ => .cells #[.int .u64 0, .int .u64 0, .int .u64 0, .int .u64 0] 26) (by kernel_rfl) (by kernel_rfl) (fun _ _ _ _ _ h => h) ?_
  simp only [List.take_succ_cons, List.take_zero, List.drop_succ_cons, List.drop_zero]
  refine head_call rfl rfl rfl rfl (fun w1 hC => by first | (go_simp; done) | (go_simp; rfl)) (fun w1 hC => hf w1) ?_
  simp only [Act.put, List.setIfInBounds_toArray, List.set_cons_zero, List.set_cons_succ]
  repeat (first
    | (apply head_pure rfl rfl rfl
       case h => (intro w1; go_simp; rfl)
       simp only [Act.put, List.setIfInBounds_toArray, List.set_cons_zero, List.set_cons_succ])
    | (apply head_val rfl rfl rfl rfl
       case h => (intro w1 hC; have cX := cell4 (keep hC (hp_drew hX)); clear hC; go_simp; rfl)
       simp only [Act.put, List.setIfInBounds_toArray, List.set_cons_zero, List.set_cons_succ]))
  refine head_call rfl rfl rfl rfl (fun w1 hC => by first | (go_simp; done) | (go_simp; rfl)) (fun w1 hC => h2 w1) ?_
  simp only [Act.put, List.setIfInBounds_toArray, List.set_cons_zero, List.set_cons_succ]
  repeat (first
    | (apply head_pure rfl rfl rfl
       case h => (intro w1; go_simp; rfl)
       simp only [Act.put, List.setIfInBounds_toArray, List.set_cons_zero, List.set_cons_succ])
    | (apply head_val rfl rfl rfl rfl
       case h => (intro w1 hC; have cX := cell4 (keep hC (hp_drew hX)); clear hC; go_simp; rfl)
       simp only [Act.put, List.setIfInBounds_toArray, List.set_cons_zero, List.set_cons_succ]))
  refine head_call rfl rfl rfl rfl (fun w1 hC => by first | (go_simp; done) | (go_simp; rfl)) (fun w1 hC => h3 w1) ?_
  simp only [Act.put, List.setIfInBounds_toArray, List.set_cons_zero, List.set_cons_succ]
  refine head_alloc rfl rfl rfl rfl (fun w1 => by first | (go_simp; done) | (go_simp; rfl)) (fun b5 hb5 => ?_)
  simp only [Act.put, List.setIfInBounds_toArray, List.set_cons_zero, List.set_cons_succ]
  refine head_nil ?_
  intro w3 hC hown
  obtain ⟨hl_b5, hn_b5, hd_b5, -⟩ := hown
  replace hn_b5 : w3.heap[b5]? = some (.cells _ _) := hn_b5
  replace hl_b5 : _ ≤ b5 := hl_b5
  clear hd_b5
  replace hl_b5 : w2.heap.size ≤ b5 := hl_b5
  replace hw_w0 := below_tr hw_w0 hC
  replace hR := keep hC (hp_drew hR)
  replace hX := keep hC (hp_drew hX)
  clear hC
  refine wpList_storeBlk 4 rfl rfl rfl rfl hn_b5 rfl rfl (by kernel_rfl) (by kernel_rfl) ?_
  intro w4 s4
  simp only [Act.put]
  replace hw_w0 := s4.below hw_w0 (by omega)
  replace hR := s4.other hR (by omega)
  replace hX := s4.other hX (by omega)
  have hD := s4.at_
  clear s4 hn_b5
  go_wp2_with fail
  refine wp_region_mono 9 9 [] (fun _ => default) (by kernel_rfl) (by kernel_rfl) (fun _ _ _ _ _ h => h) ?_
  simp only [List.take_succ_cons, List.take_zero, List.drop_succ_cons, List.drop_zero]
  repeat (first
    | (apply head_pure rfl rfl rfl
       case h => (intro w1; go_simp; rfl)
       simp only [Act.put, List.setIfInBounds_toArray, List.set_cons_zero, List.set_cons_succ])
    | (apply head_val rfl rfl rfl rfl
       case h => (intro w1 hC; have cX := cell4 (keep hC (hp_drew hX)); have cD := cell4 (keep hC (hp_drew hD)); clear hC; go_simp; rfl)
       simp only [Act.put, List.setIfInBounds_toArray, List.set_cons_zero, List.set_cons_succ]))
  refine head_call rfl rfl rfl rfl (fun w1 hC => by first | (go_simp; done) | (go_simp; rfl)) (fun w1 hC => h4 w1) ?_
  simp only [Act.put, List.setIfInBounds_toArray, List.set_cons_zero, List.set_cons_succ]
  repeat (first
    | (apply head_pure rfl rfl rfl
       case h => (intro w1; go_simp; rfl)
       simp only [Act.put, List.setIfInBounds_toArray, List.set_cons_zero, List.set_cons_succ])
    | (apply head_val rfl rfl rfl rfl
       case h => (intro w1 hC; have cX := cell4 (keep hC (hp_drew hX)); have cD := cell4 (keep hC (hp_drew hD)); clear hC; go_simp; rfl)
       simp only [Act.put, List.setIfInBounds_toArray, List.set_cons_zero, List.set_cons_succ]))
  refine head_call rfl rfl rfl rfl (fun w1 hC => by first | (go_simp; done) | (go_simp; rfl)) (fun w1 hC => h5 w1) ?_
  simp only [Act.put, List.setIfInBounds_toArray, List.set_cons_zero, List.set_cons_succ]
  refine head_call rfl rfl rfl rfl (fun w1 hC => by first | (go_simp; done) | (go_simp; rfl)) (fun w1 hC => h6 w1) ?_
  simp only [Act.put, List.setIfInBounds_toArray, List.set_cons_zero, List.set_cons_succ]
  refine head_call rfl rfl rfl rfl (fun w1 hC => by first | (go_simp; done) | (go_simp; rfl)) (fun w1 hC => hr w1) ?_
  simp only [Act.put, List.setIfInBounds_toArray, List.set_cons_zero, List.set_cons_succ]
  repeat
    (apply head_pure rfl rfl rfl
     case h => (intro w1; go_simp; rfl)
     simp only [Act.put, List.setIfInBounds_toArray, List.set_cons_zero, List.set_cons_succ])
  refine head_nil ?_
  intro w5 hC _
  replace hw_w0 := below_tr hw_w0 hC
  replace hR := keep hC (hp_drew hR)
  clear hC
  have cR0 := cell_of hR 0
  have cR1 := cell_of hR 1
  have cR2 := cell_of hR 2
  have cR3 := cell_of hR 3
  have cRf := frozen_of hR
  have hB := st4_below (n := RN) hw_w0 (show w.heap.size ≤ w.heap.size + 1 by omega)
  have hc := cell4 (st4_at (n := RN) hR)
  clear hw_w0 hR hD hX
  go_wp2_with fail
  simp only [st4_eq]
  exact bodyPost_ret (v := .tuple #[num RN, .bool RO]) (by simp [results, Try.results48, go_sem, hc]) rfl ⟨rfl, hB⟩
end Go.Proofs.Ytdhaedjmlddjcaa
