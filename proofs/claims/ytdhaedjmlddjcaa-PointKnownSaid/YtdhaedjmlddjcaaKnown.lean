/- law8.PointKnown: the walk. No conditions. -/
import Derived.Test.YtdhaedjmlddjcaaKv
namespace Go.Proofs.Ytdhaedjmlddjcaa
open Go.RowKit Go.Mono Go.Num
theorem kst_at (k : Nat) (hk : k < 4) : #[Value.string ks0, .string ks1, .string ks2, .string ks3][k]? = some (.string (kst k)) := by
  have h : k = 0 ∨ k = 1 ∨ k = 2 ∨ k = 3 := by omega
  rcases h with rfl | rfl | rfl | rfl <;> rfl
theorem pbyte_lt (x y j : Nat) : pbyte x y j < 256 := by
  unfold pbyte
  have h1 := byteAt_lt (fnorm y) 31
  have h2 := byteAt_lt (fnorm y) j
  split
  · split
    · exact Nat.or_lt_two_pow (n := 8) h1 (by decide)
    · exact h2
  · exact h2
theorem knum_at (k : Nat) (hk : k < 4) : #[Value.int .u64 0, .int .u64 1, .int .u64 2, .int .u64 3][k]? = some (.int .u64 (k : Nat)) := by
  have h : k = 0 ∨ k = 1 ∨ k = 2 ∨ k = 3 := by omega
  rcases h with rfl | rfl | rfl | rfl <;> rfl
theorem num_small (k : Nat) (hk : k < 4) : num k = .agg #[.int .u64 (k : Nat), .int .u64 0, .int .u64 0, .int .u64 0] := by
  have h : k = 0 ∨ k = 1 ∨ k = 2 ∨ k = 3 := by omega
  rcases h with rfl | rfl | rfl | rfl <;> rfl
set_option maxHeartbeats 1000000 in
theorem known_any (n : Nat) (w : World) (hn : n < 256) :
    Calls Try.prog 3 #[.int .u8 n] w fun e w' => e = .returned (.bool true) ∧ Below w.heap.size w w' := by
  go_enter Try.func3, Try.ntmps3
  go_wp2_with fail
  rw [ks0_eq, ks1_eq, ks2_eq, ks3_eq]
  have hk : n % 4 < 4 := by omega
  have hmod : ((n : Nat) : Int) % 4 = ((n % 4 : Nat) : Int) := by omega
  rw [hmod]
  clear hmod
  generalize n % 4 = k at *
  obtain ⟨w0, hq_w0⟩ : ∃ w0, ((w.alloc (.cells #[.int .u64 0, .int .u64 1, .int .u64 2, .int .u64 3] 22)).alloc (.cells #[.string ks0, .string ks1, .string ks2, .string ks3] 9)) = w0 := ⟨_, rfl⟩
  have hA : w0.heap[w.heap.size]? = some (.cells #[.int .u64 0, .int .u64 1, .int .u64 2, .int .u64 3] 22) := by rw [← hq_w0]; exact hp_old _ (hp_new _ (by simp))
  have hL : w0.heap[w.heap.size + 1]? = some (.cells #[.string ks0, .string ks1, .string ks2, .string ks3] 9) := by rw [← hq_w0]; exact hp_new _ (by simp)
  have hs_w0 : w0.heap.size = w.heap.size + 2 := by rw [← hq_w0]; simp
  have hw_w0 : Below w.heap.size w w0 := by rw [← hq_w0]; exact ((Below.refl w.heap.size w).alloc (Nat.le_refl _) _).alloc (by simp) _
  rw [hq_w0]
  clear hq_w0
  have hkn := knum_at k hk
  have hks := kst_at k hk
  have hnum := num_small k hk
  have hkw := known k hk
  have hm := fun w => pmul_any k baseX baseY w base_lt.1 base_lt.2
  have hb := fun w => base_any w
  rw [hnum] at hm
  obtain ⟨hon, hst⟩ := hkw
  have hX : mulX k baseX baseY < W ^ 4 := lt_W (by rw [mulX_eq]; exact fmul_lt _ _)
  have hY : mulY k baseX baseY < W ^ 4 := lt_W (by rw [mulY_eq]; exact fmul_lt _ _)
  generalize mulX k baseX baseY = PX at *
  generalize mulY k baseX baseY = PY at *
  generalize pt baseX baseY = V at *
  have hpb := fun w => pbytes_any PX PY w hY
  have hpo := fun w => on_any PX PY w hX hY
  have hpf := fun j => pbyte_lt PX PY j
  have hh := fun w => hex_any (pbyte PX PY) 32 w (by decide) (by decide) hpf
  rw [show 2 * 32 = 64 from rfl, hst] at hh
  rw [hon] at hpo
  generalize kst k = S at *
  generalize bstr (pbyte PX PY) 32 = T at *
  have haw := fun w => awake_any w
  have hk' : (k : Int) < 4 := by omega
  clear hnum hst hX hY hon hpf hn hs_w0
  have hlA := Go.Mono.lt_of_some hA
  have hlL := Go.Mono.lt_of_some hL
  refine wp_region_mono 7 8 [] (fun _ => .cells #[.int .u64 0, .int .u64 0, .int .u64 0, .int .u64 0, .int .u64 0, .int .u64 0, .int .u64 0, .int .u64 0] 28) (by kernel_rfl) (by kernel_rfl) (fun _ _ _ _ _ h => h) ?_
  simp only [List.take_succ_cons, List.take_zero, List.drop_succ_cons, List.drop_zero]
  repeat (first
    | (apply head_pure rfl rfl rfl
       case h => (intro w1; go_simp; rfl)
       simp only [Act.put, List.setIfInBounds_toArray, List.set_cons_zero, List.set_cons_succ])
    | (apply head_val rfl rfl rfl rfl
       case h => (intro w1 hC; have cA := (cell_of (keep hC (hp_drew hA)) k).trans hkn; clear hC; go_simp; rfl)
       simp only [Act.put, List.setIfInBounds_toArray, List.set_cons_zero, List.set_cons_succ]))
  refine head_call rfl rfl rfl rfl (fun w1 hC => by first | (go_simp; done) | (go_simp; rfl)) (fun w1 hC => hb w1) ?_
  simp only [Act.put, List.setIfInBounds_toArray, List.set_cons_zero, List.set_cons_succ]
  repeat (first
    | (apply head_pure rfl rfl rfl
       case h => (intro w1; go_simp; rfl)
       simp only [Act.put, List.setIfInBounds_toArray, List.set_cons_zero, List.set_cons_succ])
    | (apply head_val rfl rfl rfl rfl
       case h => (intro w1 hC; have cA := (cell_of (keep hC (hp_drew hA)) k).trans hkn; clear hC; go_simp; rfl)
       simp only [Act.put, List.setIfInBounds_toArray, List.set_cons_zero, List.set_cons_succ]))
  refine head_call rfl rfl rfl rfl (fun w1 hC => by first | (go_simp; done) | (go_simp; rfl)) (fun w1 hC => hm w1) ?_
  simp only [Act.put, List.setIfInBounds_toArray, List.set_cons_zero, List.set_cons_succ]
  repeat (first
    | (apply head_pure rfl rfl rfl
       case h => (intro w1; go_simp; rfl)
       simp only [Act.put, List.setIfInBounds_toArray, List.set_cons_zero, List.set_cons_succ])
    | (apply head_val rfl rfl rfl rfl
       case h => (intro w1 hC; have cA := (cell_of (keep hC (hp_drew hA)) k).trans hkn; clear hC; go_simp; rfl)
       simp only [Act.put, List.setIfInBounds_toArray, List.set_cons_zero, List.set_cons_succ]))
  refine head_alloc rfl rfl rfl rfl (fun w1 => by first | (go_simp; done) | (go_simp; rfl)) (fun b7 hb7 => ?_)
  simp only [Act.put, List.setIfInBounds_toArray, List.set_cons_zero, List.set_cons_succ]
  refine head_nil ?_
  intro w3 hC hown
  obtain ⟨hl_b7, hn_b7, hd_b7, -⟩ := hown
  replace hn_b7 : w3.heap[b7]? = some (.cells _ _) := hn_b7
  replace hl_b7 : _ ≤ b7 := hl_b7
  clear hd_b7
  replace hl_b7 : w0.heap.size ≤ b7 := hl_b7
  replace hw_w0 := below_tr hw_w0 hC
  replace hL := keep hC (hp_drew hL)
  clear hC
  have hsz := hw_w0.size
  refine wpList_storeBlk 8 rfl rfl rfl rfl hn_b7 rfl rfl (by kernel_rfl) (by kernel_rfl) ?_
  intro w4 s4
  simp only [Act.put]
  replace hw_w0 := s4.below hw_w0 (by omega)
  replace hL := s4.other hL (by omega)
  have hP := s4.at_
  clear s4 hn_b7
  have htr : (S.toList == S.toList) = true := by simp
  go_wp2_with fail
  have hlP := Go.Mono.lt_of_some hP
  refine wp_region_calm (by kernel_rfl) (by kernel_rfl) ?_
  repeat (first
    | (refine calm_not rfl ?_
       simp only [Act.put, List.setIfInBounds_toArray, List.set_cons_zero, List.set_cons_succ])
    | (apply calm_pure rfl
       case h => (intro w1; go_simp; rfl)
       simp only [Act.put, List.setIfInBounds_toArray, List.set_cons_zero, List.set_cons_succ])
    | (apply calm_val rfl
       case h => (intro w1 hC; have cx := cell_of (keep hC (hp_drew hP)); have cL := (cell_of (keep hC (hp_drew hL)) k).trans hks; clear hC; go_simp; rfl)
       simp only [Act.put, List.setIfInBounds_toArray, List.set_cons_zero, List.set_cons_succ]))
  refine calm_call rfl (fun w1 hC => by first | (go_simp; done) | (go_simp; rfl)) (fun w1 hC => hpb w1) ?_
  simp only [Act.put, List.setIfInBounds_toArray, List.set_cons_zero, List.set_cons_succ]
  repeat (first
    | (refine calm_not rfl ?_
       simp only [Act.put, List.setIfInBounds_toArray, List.set_cons_zero, List.set_cons_succ])
    | (apply calm_pure rfl
       case h => (intro w1; go_simp; rfl)
       simp only [Act.put, List.setIfInBounds_toArray, List.set_cons_zero, List.set_cons_succ])
    | (apply calm_val rfl
       case h => (intro w1 hC; have cx := cell_of (keep hC (hp_drew hP)); have cL := (cell_of (keep hC (hp_drew hL)) k).trans hks; clear hC; go_simp; rfl)
       simp only [Act.put, List.setIfInBounds_toArray, List.set_cons_zero, List.set_cons_succ]))
  refine calm_call rfl (fun w1 hC => by first | (go_simp; done) | (go_simp; rfl)) (fun w1 hC => hh w1) ?_
  simp only [Act.put, List.setIfInBounds_toArray, List.set_cons_zero, List.set_cons_succ]
  repeat (first
    | (refine calm_not rfl ?_
       simp only [Act.put, List.setIfInBounds_toArray, List.set_cons_zero, List.set_cons_succ])
    | (apply calm_pure rfl
       case h => (intro w1; go_simp; rfl)
       simp only [Act.put, List.setIfInBounds_toArray, List.set_cons_zero, List.set_cons_succ])
    | (apply calm_val rfl
       case h => (intro w1 hC; have cx := cell_of (keep hC (hp_drew hP)); have cL := (cell_of (keep hC (hp_drew hL)) k).trans hks; clear hC; go_simp; rfl)
       simp only [Act.put, List.setIfInBounds_toArray, List.set_cons_zero, List.set_cons_succ]))
  refine calm_call rfl (fun w1 hC => by first | (go_simp; done) | (go_simp; rfl)) (fun w1 hC => hpo w1) ?_
  simp only [Act.put, List.setIfInBounds_toArray, List.set_cons_zero, List.set_cons_succ]
  repeat (first
    | (refine calm_not rfl ?_
       simp only [Act.put, List.setIfInBounds_toArray, List.set_cons_zero, List.set_cons_succ])
    | (apply calm_pure rfl
       case h => (intro w1; go_simp; rfl)
       simp only [Act.put, List.setIfInBounds_toArray, List.set_cons_zero, List.set_cons_succ])
    | (apply calm_val rfl
       case h => (intro w1 hC; have cx := cell_of (keep hC (hp_drew hP)); have cL := (cell_of (keep hC (hp_drew hL)) k).trans hks; clear hC; go_simp; rfl)
       simp only [Act.put, List.setIfInBounds_toArray, List.set_cons_zero, List.set_cons_succ]))
  refine calm_call rfl (fun w1 hC => by first | (go_simp; done) | (go_simp; rfl)) (fun w1 hC => haw w1) ?_
  simp only [Act.put, List.setIfInBounds_toArray, List.set_cons_zero, List.set_cons_succ]
  repeat (first
    | (refine calm_not rfl ?_
       simp only [Act.put, List.setIfInBounds_toArray, List.set_cons_zero, List.set_cons_succ])
    | (apply calm_pure rfl
       case h => (intro w1; go_simp; rfl)
       simp only [Act.put, List.setIfInBounds_toArray, List.set_cons_zero, List.set_cons_succ])
    | (apply calm_val rfl
       case h => (intro w1 hC; have cx := cell_of (keep hC (hp_drew hP)); have cL := (cell_of (keep hC (hp_drew hL)) k).trans hks; clear hC; go_simp; rfl)
       simp only [Act.put, List.setIfInBounds_toArray, List.set_cons_zero, List.set_cons_succ]))
  refine wpQuiet_nil ?_
  intro w5 hC
  replace hw_w0 := below_tr hw_w0 hC
  clear hC
  go_wp2_with fail
  go_ret
  exact ⟨rfl, hw_w0⟩
end Go.Proofs.Ytdhaedjmlddjcaa
