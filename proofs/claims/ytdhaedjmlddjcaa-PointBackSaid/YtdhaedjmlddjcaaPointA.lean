/- field.Inv; point.factor, of, add, point, Add: what each call comes to, for numbers below the prime. No other conditions. -/
import Derived.Test.YtdhaedjmlddjcaaFieldF
import Derived.Test.YtdhaedjmlddjcaaStore
namespace Go.Proofs.Ytdhaedjmlddjcaa
open Go.RowKit Go.Mono Go.Num

theorem num_two : num 2 = .agg #[.int .u64 2, .int .u64 0, .int .u64 0, .int .u64 0] :=
  num_of (by decide +kernel) (by decide +kernel) (by decide +kernel) (by decide +kernel)
theorem num_dd : num dd = .agg #[.int .u64 8496970652267935907, .int .u64 31536524315187371, .int .u64 10144147576115030168, .int .u64 5909686906226998899] :=
  num_of (by decide +kernel) (by decide +kernel) (by decide +kernel) (by decide +kernel)

set_option maxHeartbeats 400000 in
theorem factor_any (w : World) :
    Calls Try.prog 37 #[] w fun e w' => e = .returned (num dd) ∧ Below w.heap.size w w' := by
  rw [num_dd]
  go_enter Try.func37, Try.ntmps37
  go_wp2
  exact bodyPost_ret (v := .agg #[.int .u64 8496970652267935907, .int .u64 31536524315187371, .int .u64 10144147576115030168, .int .u64 5909686906226998899]) (by simp [results, Try.results37, go_sem]) rfl ⟨rfl, (Below.refl _ _).alloc (Nat.le_refl _) _⟩

theorem sub_two : sub256 p 2 = p - 2 := sub256_ge p_lt (by decide)

set_option maxHeartbeats 400000 in
theorem inv_f (a : Nat) (w : World) (ha : a < W ^ 4) :
    Calls Try.prog 54 #[num a] w fun e w' => e = .returned (num (finv a)) ∧ Below w.heap.size w w' := by
  have Ha := Lib.hid ha
  clear ha
  have hl := fun w' => less_any p 2 w'
  rw [num_two, sub_two] at hl
  have Hl := Lib.hid hl
  clear hl
  go_enter Try.func54, Try.ntmps54
  go_wp2_with fail
  obtain ⟨w0, hq_w0⟩ : ∃ w0, ((w.alloc (.cells #[.int .u64 (wd a 0), .int .u64 (wd a 1), .int .u64 (wd a 2), .int .u64 (wd a 3)] 26)).alloc (.cells #[.int .u64 0, .int .u64 0, .int .u64 0, .int .u64 0] 26)) = w0 := ⟨_, rfl⟩
  have hx : w0.heap[w.heap.size]? = some (.cells #[.int .u64 (wd a 0), .int .u64 (wd a 1), .int .u64 (wd a 2), .int .u64 (wd a 3)] 26) := by rw [← hq_w0]; exact hp_old _ (hp_new _ (by simp))
  have hz : w0.heap[w.heap.size + 1]? = some (.cells #[.int .u64 0, .int .u64 0, .int .u64 0, .int .u64 0] 26) := by rw [← hq_w0]; exact hp_new _ (by simp)
  have hs_w0 : w0.heap.size = w.heap.size + 2 := by rw [← hq_w0]; simp
  have hw_w0 : Below w.heap.size w w0 := by rw [← hq_w0]; exact ((Below.refl w.heap.size w).alloc (Nat.le_refl _) _).alloc (by simp) _
  rw [hq_w0]
  clear hq_w0
  refine (prime_any _).mono ?_
  rintro e w1 ⟨rfl, hb1⟩
  have hx1 := keep hb1 hx
  have hz1 := keep hb1 hz
  have hw1 := below_tr' hw_w0 hb1
  clear hx hz hw_w0 hb1 hs_w0
  go_wp2_with fail
  refine (Hl.out _).mono ?_
  rintro e w2 ⟨rfl, hb2⟩
  have hx2 := keep hb2 hx1
  have hz2 := keep hb2 hz1
  have hw2 := below_tr' hw1 hb2
  clear hx1 hz1 hw1 hb2
  have cx := cell_of hx2
  have hl2 : w.heap.size < w2.heap.size := Go.Mono.lt_of_some hx2
  go_wp2_with fail
  have hz3 := hp_old (.cells #[.int .u64 (wd (p - 2) 0), .int .u64 (wd (p - 2) 1), .int .u64 (wd (p - 2) 2), .int .u64 (wd (p - 2) 3)] 26) hz2
  have hw3 := hw2.alloc hw2.size (.cells #[.int .u64 (wd (p - 2) 0), .int .u64 (wd (p - 2) 1), .int .u64 (wd (p - 2) 2), .int .u64 (wd (p - 2) 3)] 26)
  clear hx2 hz2 hw2 cx hl2
  generalize w2.alloc (.cells #[.int .u64 (wd (p - 2) 0), .int .u64 (wd (p - 2) 1), .int .u64 (wd (p - 2) 2), .int .u64 (wd (p - 2) 3)] 26) = w3 at *
  refine (power_any a (p - 2) _ Ha.out).mono ?_
  rw [show powF a (p - 2) = finv a from rfl]
  rintro e w4 ⟨rfl, hb4⟩
  have hz4 := keep hb4 hz3
  have hw4 := below_tr' hw3 hb4
  clear hz3 hw3 hb4
  have cz0 := cell_of hz4 0
  have cz1 := cell_of hz4 1
  have cz2 := cell_of hz4 2
  have cz3 := cell_of hz4 3
  have czf := frozen_of hz4
  have hc := cell4 (st4_at (n := finv a) hz4)
  have hB := st4_below (b := w.heap.size + 1) (n := finv a) hw4 (by omega)
  go_wp2
  simp only [st4_eq]
  exact bodyPost_ret (v := num (finv a)) (by simp [results, Try.results54, go_sem, hc]) rfl ⟨rfl, hB⟩

set_option maxHeartbeats 400000 in
theorem of_any (x y : Nat) (w : World) (hx : x < W ^ 4) (hy : y < W ^ 4) :
    Calls Try.prog 28 #[pt x y] w fun e w' => e = .returned (ofP x y).v ∧ Below w.heap.size w w' := by
  have Hx := Lib.hid hx
  have Hy := Lib.hid hy
  clear hx hy
  rw [show (ofP x y).v = fre x y 1 (fmul x y) from rfl]
  rw [fre_one]
  go_enter Try.func28, Try.ntmps28
  go_wp2_with fail
  obtain ⟨w0, hq_w0⟩ : ∃ w0, ((w.alloc (.cells #[.int .u64 (wd x 0), .int .u64 (wd x 1), .int .u64 (wd x 2), .int .u64 (wd x 3), .int .u64 (wd y 0), .int .u64 (wd y 1), .int .u64 (wd y 2), .int .u64 (wd y 3)] 28)).alloc (.cells #[.int .u64 0, .int .u64 0, .int .u64 0, .int .u64 0, .int .u64 0, .int .u64 0, .int .u64 0, .int .u64 0, .int .u64 0, .int .u64 0, .int .u64 0, .int .u64 0, .int .u64 0, .int .u64 0, .int .u64 0, .int .u64 0] 54)) = w0 := ⟨_, rfl⟩
  have hx : w0.heap[w.heap.size]? = some (.cells #[.int .u64 (wd x 0), .int .u64 (wd x 1), .int .u64 (wd x 2), .int .u64 (wd x 3), .int .u64 (wd y 0), .int .u64 (wd y 1), .int .u64 (wd y 2), .int .u64 (wd y 3)] 28) := by rw [← hq_w0]; exact hp_old _ (hp_new _ (by simp))
  have hz : w0.heap[w.heap.size + 1]? = some (.cells #[.int .u64 0, .int .u64 0, .int .u64 0, .int .u64 0, .int .u64 0, .int .u64 0, .int .u64 0, .int .u64 0, .int .u64 0, .int .u64 0, .int .u64 0, .int .u64 0, .int .u64 0, .int .u64 0, .int .u64 0, .int .u64 0] 54) := by rw [← hq_w0]; exact hp_new _ (by simp)
  have hs_w0 : w0.heap.size = w.heap.size + 2 := by rw [← hq_w0]; simp
  have hw_w0 : Below w.heap.size w w0 := by rw [← hq_w0]; exact ((Below.refl w.heap.size w).alloc (Nat.le_refl _) _).alloc (by simp) _
  rw [hq_w0]
  clear hq_w0
  refine wp_region_mono 11 11 [] (fun _ => default) (by kernel_rfl) (by kernel_rfl) (fun _ _ _ _ _ h => h) ?_
  simp only [List.take_succ_cons, List.take_zero, List.drop_succ_cons, List.drop_zero]
  repeat (first
    | (apply head_pure rfl rfl rfl
       case h => (intro w1; go_simp; rfl)
       simp only [Act.put, List.setIfInBounds_toArray, List.set_cons_zero, List.set_cons_succ])
    | (apply head_val rfl rfl rfl rfl
       case h => (intro w1 hC; have cx := cell_of (keep hC (hp_drew hx)); clear hC; go_simp; rfl)
       simp only [Act.put, List.setIfInBounds_toArray, List.set_cons_zero, List.set_cons_succ]))
  refine head_call rfl rfl rfl rfl (fun w1 hC => by first | (go_simp; done) | (go_simp; rfl)) (fun w1 hC => mul_f x y w1 Hx.out Hy.out) ?_
  simp only [Act.put, List.setIfInBounds_toArray, List.set_cons_zero, List.set_cons_succ]
  repeat
    (apply head_pure rfl rfl rfl
     case h => (intro w1; go_simp; rfl)
     simp only [Act.put, List.setIfInBounds_toArray, List.set_cons_zero, List.set_cons_succ])
  refine head_nil ?_
  intro w3 hC _
  have hz3 := keep hC (hp_drew hz)
  have hw3 := below_tr hw_w0 hC
  clear hx hz hw_w0 hs_w0 hC
  refine wpList_storeBlk 16 rfl rfl rfl rfl hz3 rfl rfl (by kernel_rfl) (by kernel_rfl) ?_
  intro w4 h4
  have hz4 := h4.at_
  have hB := h4.below hw3 (by omega)
  go_wp2
  exact bodyPost_ret (results_blk Try.results28 rfl hz4 Try.underlying54 rfl (by kernel_rfl)) rfl ⟨rfl, hB⟩

set_option maxHeartbeats 1000000 in
theorem add_p (f g : F4) (w : World) (hf : f.ok) (hg : g.ok) :
    Calls Try.prog 30 #[f.v, g.v] w fun e w' => e = .returned (addP f g).v ∧ Below w.heap.size w w' := by
  have Hf := Lib.hid hf
  have Hg := Lib.hid hg
  clear hf hg
  go_enter Try.func30, Try.ntmps30
  go_wp2_with fail
  obtain ⟨w0, hq_w0⟩ : ∃ w0, (((w.alloc (.cells #[.int .u64 (wd (f.x) 0), .int .u64 (wd (f.x) 1), .int .u64 (wd (f.x) 2), .int .u64 (wd (f.x) 3), .int .u64 (wd (f.y) 0), .int .u64 (wd (f.y) 1), .int .u64 (wd (f.y) 2), .int .u64 (wd (f.y) 3), .int .u64 (wd (f.z) 0), .int .u64 (wd (f.z) 1), .int .u64 (wd (f.z) 2), .int .u64 (wd (f.z) 3), .int .u64 (wd (f.t) 0), .int .u64 (wd (f.t) 1), .int .u64 (wd (f.t) 2), .int .u64 (wd (f.t) 3)] 54)).alloc (.cells #[.int .u64 (wd (g.x) 0), .int .u64 (wd (g.x) 1), .int .u64 (wd (g.x) 2), .int .u64 (wd (g.x) 3), .int .u64 (wd (g.y) 0), .int .u64 (wd (g.y) 1), .int .u64 (wd (g.y) 2), .int .u64 (wd (g.y) 3), .int .u64 (wd (g.z) 0), .int .u64 (wd (g.z) 1), .int .u64 (wd (g.z) 2), .int .u64 (wd (g.z) 3), .int .u64 (wd (g.t) 0), .int .u64 (wd (g.t) 1), .int .u64 (wd (g.t) 2), .int .u64 (wd (g.t) 3)] 54)).alloc (.cells #[.int .u64 0, .int .u64 0, .int .u64 0, .int .u64 0, .int .u64 0, .int .u64 0, .int .u64 0, .int .u64 0, .int .u64 0, .int .u64 0, .int .u64 0, .int .u64 0, .int .u64 0, .int .u64 0, .int .u64 0, .int .u64 0] 54)) = w0 := ⟨_, rfl⟩
  have hx : w0.heap[w.heap.size]? = some (.cells #[.int .u64 (wd (f.x) 0), .int .u64 (wd (f.x) 1), .int .u64 (wd (f.x) 2), .int .u64 (wd (f.x) 3), .int .u64 (wd (f.y) 0), .int .u64 (wd (f.y) 1), .int .u64 (wd (f.y) 2), .int .u64 (wd (f.y) 3), .int .u64 (wd (f.z) 0), .int .u64 (wd (f.z) 1), .int .u64 (wd (f.z) 2), .int .u64 (wd (f.z) 3), .int .u64 (wd (f.t) 0), .int .u64 (wd (f.t) 1), .int .u64 (wd (f.t) 2), .int .u64 (wd (f.t) 3)] 54) := by rw [← hq_w0]; exact hp_old _ (hp_old _ (hp_new _ (by simp)))
  have hy : w0.heap[w.heap.size + 1]? = some (.cells #[.int .u64 (wd (g.x) 0), .int .u64 (wd (g.x) 1), .int .u64 (wd (g.x) 2), .int .u64 (wd (g.x) 3), .int .u64 (wd (g.y) 0), .int .u64 (wd (g.y) 1), .int .u64 (wd (g.y) 2), .int .u64 (wd (g.y) 3), .int .u64 (wd (g.z) 0), .int .u64 (wd (g.z) 1), .int .u64 (wd (g.z) 2), .int .u64 (wd (g.z) 3), .int .u64 (wd (g.t) 0), .int .u64 (wd (g.t) 1), .int .u64 (wd (g.t) 2), .int .u64 (wd (g.t) 3)] 54) := by rw [← hq_w0]; exact hp_old _ (hp_new _ (by simp))
  have hz : w0.heap[w.heap.size + 1 + 1]? = some (.cells #[.int .u64 0, .int .u64 0, .int .u64 0, .int .u64 0, .int .u64 0, .int .u64 0, .int .u64 0, .int .u64 0, .int .u64 0, .int .u64 0, .int .u64 0, .int .u64 0, .int .u64 0, .int .u64 0, .int .u64 0, .int .u64 0] 54) := by rw [← hq_w0]; exact hp_new _ (by simp)
  have hs_w0 : w0.heap.size = w.heap.size + 3 := by rw [← hq_w0]; simp
  have hw_w0 : Below w.heap.size w w0 := by rw [← hq_w0]; exact (((Below.refl w.heap.size w).alloc (Nat.le_refl _) _).alloc (by simp) _).alloc (by simp; omega) _
  rw [hq_w0]
  clear hq_w0
  clear hs_w0
  refine wp_region_mono 11 12 [] (fun _ => .cells #[.int .u64 0, .int .u64 0, .int .u64 0, .int .u64 0] 26) (by kernel_rfl) (by kernel_rfl) (fun _ _ _ _ _ h => h) ?_
  simp only [List.take_succ_cons, List.take_zero, List.drop_succ_cons, List.drop_zero]
  repeat (first
    | (apply head_pure rfl rfl rfl
       case h => (intro w1; go_simp; rfl)
       simp only [Act.put, List.setIfInBounds_toArray, List.set_cons_zero, List.set_cons_succ])
    | (apply head_val rfl rfl rfl rfl
       case h => (intro w1 hC; have cx := cell_of (keep hC (hp_drew hx)); have cy := cell_of (keep hC (hp_drew hy)); clear hC; go_simp; rfl)
       simp only [Act.put, List.setIfInBounds_toArray, List.set_cons_zero, List.set_cons_succ]))
  refine head_call rfl rfl rfl rfl (fun w1 hC => by first | (go_simp; done) | (go_simp; rfl)) (fun w1 hC => sub_f f.y f.x w1 (lt_W Hf.out.y) (lt_W Hf.out.x)) ?_
  simp only [Act.put, List.setIfInBounds_toArray, List.set_cons_zero, List.set_cons_succ]
  repeat (first
    | (apply head_pure rfl rfl rfl
       case h => (intro w1; go_simp; rfl)
       simp only [Act.put, List.setIfInBounds_toArray, List.set_cons_zero, List.set_cons_succ])
    | (apply head_val rfl rfl rfl rfl
       case h => (intro w1 hC; have cx := cell_of (keep hC (hp_drew hx)); have cy := cell_of (keep hC (hp_drew hy)); clear hC; go_simp; rfl)
       simp only [Act.put, List.setIfInBounds_toArray, List.set_cons_zero, List.set_cons_succ]))
  refine head_call rfl rfl rfl rfl (fun w1 hC => by first | (go_simp; done) | (go_simp; rfl)) (fun w1 hC => sub_f g.y g.x w1 (lt_W Hg.out.y) (lt_W Hg.out.x)) ?_
  simp only [Act.put, List.setIfInBounds_toArray, List.set_cons_zero, List.set_cons_succ]
  refine head_call rfl rfl rfl rfl (fun w1 hC => by first | (go_simp; done) | (go_simp; rfl)) (fun w1 hC => mul_f (fsub f.y f.x) (fsub g.y g.x) w1 (lt_W (fsub_lt _ _)) (lt_W (fsub_lt _ _))) ?_
  simp only [Act.put, List.setIfInBounds_toArray, List.set_cons_zero, List.set_cons_succ]
  rw [show fmul (fsub f.y f.x) (fsub g.y g.x) = addA f g from rfl]
  refine head_alloc rfl rfl rfl rfl (fun w1 => by first | (go_simp; done) | (go_simp; rfl)) (fun bA hbA => ?_)
  simp only [Act.put, List.setIfInBounds_toArray, List.set_cons_zero, List.set_cons_succ]
  have lz := Go.Mono.lt_of_some (hp_drew hz)
  refine head_nil ?_
  intro w1 hC hown
  obtain ⟨hl_bA, hn_bA, hd_bA, -⟩ := hown
  replace hn_bA : w1.heap[bA]? = some (.cells #[.int .u64 0, .int .u64 0, .int .u64 0, .int .u64 0] 26) := hn_bA
  replace hl_bA : _ ≤ bA := hl_bA
  clear hd_bA
  have lA : w.heap.size + 2 < bA := by omega
  clear lz hl_bA hbA
  replace hw_w0 := below_tr hw_w0 hC
  replace hx := keep hC (hp_drew hx)
  replace hy := keep hC (hp_drew hy)
  replace hz := keep hC (hp_drew hz)
  clear hC
  refine wpList_storeBlk 4 rfl rfl rfl rfl hn_bA rfl rfl (by kernel_rfl) (by kernel_rfl) ?_
  intro w2 s2
  simp only [Act.put]
  replace hw_w0 := s2.below hw_w0 (by omega)
  replace hx := s2.other hx (by omega)
  replace hy := s2.other hy (by omega)
  replace hz := s2.other hz (by omega)
  replace hn_bA := s2.at_
  clear s2
  go_wp2_with fail
  refine wp_region_mono 11 12 [] (fun _ => .cells #[.int .u64 0, .int .u64 0, .int .u64 0, .int .u64 0] 26) (by kernel_rfl) (by kernel_rfl) (fun _ _ _ _ _ h => h) ?_
  simp only [List.take_succ_cons, List.take_zero, List.drop_succ_cons, List.drop_zero]
  repeat (first
    | (apply head_pure rfl rfl rfl
       case h => (intro w1; go_simp; rfl)
       simp only [Act.put, List.setIfInBounds_toArray, List.set_cons_zero, List.set_cons_succ])
    | (apply head_val rfl rfl rfl rfl
       case h => (intro w1 hC; have cx := cell_of (keep hC (hp_drew hx)); have cy := cell_of (keep hC (hp_drew hy)); clear hC; go_simp; rfl)
       simp only [Act.put, List.setIfInBounds_toArray, List.set_cons_zero, List.set_cons_succ]))
  refine head_call rfl rfl rfl rfl (fun w1 hC => by first | (go_simp; done) | (go_simp; rfl)) (fun w1 hC => add_f f.y f.x w1 (lt_W Hf.out.y) (lt_W Hf.out.x)) ?_
  simp only [Act.put, List.setIfInBounds_toArray, List.set_cons_zero, List.set_cons_succ]
  repeat (first
    | (apply head_pure rfl rfl rfl
       case h => (intro w1; go_simp; rfl)
       simp only [Act.put, List.setIfInBounds_toArray, List.set_cons_zero, List.set_cons_succ])
    | (apply head_val rfl rfl rfl rfl
       case h => (intro w1 hC; have cx := cell_of (keep hC (hp_drew hx)); have cy := cell_of (keep hC (hp_drew hy)); clear hC; go_simp; rfl)
       simp only [Act.put, List.setIfInBounds_toArray, List.set_cons_zero, List.set_cons_succ]))
  refine head_call rfl rfl rfl rfl (fun w1 hC => by first | (go_simp; done) | (go_simp; rfl)) (fun w1 hC => add_f g.y g.x w1 (lt_W Hg.out.y) (lt_W Hg.out.x)) ?_
  simp only [Act.put, List.setIfInBounds_toArray, List.set_cons_zero, List.set_cons_succ]
  refine head_call rfl rfl rfl rfl (fun w1 hC => by first | (go_simp; done) | (go_simp; rfl)) (fun w1 hC => mul_f (fadd f.y f.x) (fadd g.y g.x) w1 (lt_W (fadd_lt _ _)) (lt_W (fadd_lt _ _))) ?_
  simp only [Act.put, List.setIfInBounds_toArray, List.set_cons_zero, List.set_cons_succ]
  rw [show fmul (fadd f.y f.x) (fadd g.y g.x) = addB f g from rfl]
  refine head_alloc rfl rfl rfl rfl (fun w1 => by first | (go_simp; done) | (go_simp; rfl)) (fun bB hbB => ?_)
  simp only [Act.put, List.setIfInBounds_toArray, List.set_cons_zero, List.set_cons_succ]
  have lz := Go.Mono.lt_of_some (hp_drew hn_bA)
  refine head_nil ?_
  intro w3 hC hown
  obtain ⟨hl_bB, hn_bB, hd_bB, -⟩ := hown
  replace hn_bB : w3.heap[bB]? = some (.cells #[.int .u64 0, .int .u64 0, .int .u64 0, .int .u64 0] 26) := hn_bB
  replace hl_bB : _ ≤ bB := hl_bB
  clear hd_bB
  have lB : bA < bB := by omega
  clear lz hl_bB hbB
  replace hw_w0 := below_tr hw_w0 hC
  replace hx := keep hC (hp_drew hx)
  replace hy := keep hC (hp_drew hy)
  replace hz := keep hC (hp_drew hz)
  replace hn_bA := keep hC (hp_drew hn_bA)
  clear hC
  refine wpList_storeBlk 4 rfl rfl rfl rfl hn_bB rfl rfl (by kernel_rfl) (by kernel_rfl) ?_
  intro w4 s4
  simp only [Act.put]
  replace hw_w0 := s4.below hw_w0 (by omega)
  replace hx := s4.other hx (by omega)
  replace hy := s4.other hy (by omega)
  replace hz := s4.other hz (by omega)
  replace hn_bA := s4.other hn_bA (by omega)
  replace hn_bB := s4.at_
  clear s4
  have cx := cell_of hx
  have cy := cell_of hy
  go_wp2_with fail
  refine (mul_f f.t g.t _ (lt_W Hf.out.t) (lt_W Hg.out.t)).mono ?_
  rintro e w5 ⟨rfl, hb⟩
  clear cx cy
  replace hw_w0 := below_tr' hw_w0 hb
  replace hx := keep hb hx
  replace hy := keep hb hy
  replace hz := keep hb hz
  replace hn_bA := keep hb hn_bA
  replace hn_bB := keep hb hn_bB
  clear hb
  go_wp2_with fail
  refine (factor_any _).mono ?_
  rintro e w6 ⟨rfl, hb⟩
  replace hw_w0 := below_tr' hw_w0 hb
  replace hx := keep hb hx
  replace hy := keep hb hy
  replace hz := keep hb hz
  replace hn_bA := keep hb hn_bA
  replace hn_bB := keep hb hn_bB
  clear hb
  go_wp2_with fail
  refine (factor_any _).mono ?_
  rintro e w7 ⟨rfl, hb⟩
  replace hw_w0 := below_tr' hw_w0 hb
  replace hx := keep hb hx
  replace hy := keep hb hy
  replace hz := keep hb hz
  replace hn_bA := keep hb hn_bA
  replace hn_bB := keep hb hn_bB
  clear hb
  go_wp2_with fail
  refine (add_f dd dd _ (lt_W dd_lt) (lt_W dd_lt)).mono ?_
  rintro e w8 ⟨rfl, hb⟩
  replace hw_w0 := below_tr' hw_w0 hb
  replace hx := keep hb hx
  replace hy := keep hb hy
  replace hz := keep hb hz
  replace hn_bA := keep hb hn_bA
  replace hn_bB := keep hb hn_bB
  clear hb
  go_wp2_with fail
  refine (mul_f (fmul f.t g.t) (fadd dd dd) _ (lt_W (fmul_lt _ _)) (lt_W (fadd_lt _ _))).mono ?_
  rw [show fmul (fmul f.t g.t) (fadd dd dd) = addC f g from rfl]
  rintro e w9 ⟨rfl, hb⟩
  replace hw_w0 := below_tr' hw_w0 hb
  replace hx := keep hb hx
  replace hy := keep hb hy
  replace hz := keep hb hz
  replace hn_bA := keep hb hn_bA
  replace hn_bB := keep hb hn_bB
  clear hb
  go_wp2
  have lC := Go.Mono.lt_of_some hn_bB
  obtain ⟨w10, hq_w10⟩ : ∃ w10, (w9.alloc (.cells #[.int .u64 (wd (addC f g) 0), .int .u64 (wd (addC f g) 1), .int .u64 (wd (addC f g) 2), .int .u64 (wd (addC f g) 3)] 26)) = w10 := ⟨_, rfl⟩
  have hn_bC : w10.heap[w9.heap.size]? = some (.cells #[.int .u64 (wd (addC f g) 0), .int .u64 (wd (addC f g) 1), .int .u64 (wd (addC f g) 2), .int .u64 (wd (addC f g) 3)] 26) := by rw [← hq_w10]; exact hp_new _ (by simp)
  have hs_w10 : w10.heap.size = w9.heap.size + 1 := by rw [← hq_w10]; simp
  have hw_w10 : Below w9.heap.size w9 w10 := by rw [← hq_w10]; exact (Below.refl w9.heap.size w9).alloc (Nat.le_refl _) _
  rw [hq_w10]
  clear hq_w10
  clear hs_w10
  replace hw_w0 := below_tr' hw_w0 hw_w10
  replace hx := keep hw_w10 hx
  replace hy := keep hw_w10 hy
  replace hz := keep hw_w10 hz
  replace hn_bA := keep hw_w10 hn_bA
  replace hn_bB := keep hw_w10 hn_bB
  clear hw_w10
  generalize w9.heap.size = bC at *
  refine wp_region_mono 8 9 [] (fun _ => .cells #[.int .u64 0, .int .u64 0, .int .u64 0, .int .u64 0] 26) (by kernel_rfl) (by kernel_rfl) (fun _ _ _ _ _ h => h) ?_
  simp only [List.take_succ_cons, List.take_zero, List.drop_succ_cons, List.drop_zero]
  repeat (first
    | (apply head_pure rfl rfl rfl
       case h => (intro w1; go_simp; rfl)
       simp only [Act.put, List.setIfInBounds_toArray, List.set_cons_zero, List.set_cons_succ])
    | (apply head_val rfl rfl rfl rfl
       case h => (intro w1 hC; have cx := cell_of (keep hC (hp_drew hx)); have cy := cell_of (keep hC (hp_drew hy)); clear hC; go_simp; rfl)
       simp only [Act.put, List.setIfInBounds_toArray, List.set_cons_zero, List.set_cons_succ]))
  refine head_call rfl rfl rfl rfl (fun w1 hC => by first | (go_simp; done) | (go_simp; rfl)) (fun w1 hC => add_f f.z f.z w1 (lt_W Hf.out.z) (lt_W Hf.out.z)) ?_
  simp only [Act.put, List.setIfInBounds_toArray, List.set_cons_zero, List.set_cons_succ]
  repeat (first
    | (apply head_pure rfl rfl rfl
       case h => (intro w1; go_simp; rfl)
       simp only [Act.put, List.setIfInBounds_toArray, List.set_cons_zero, List.set_cons_succ])
    | (apply head_val rfl rfl rfl rfl
       case h => (intro w1 hC; have cx := cell_of (keep hC (hp_drew hx)); have cy := cell_of (keep hC (hp_drew hy)); clear hC; go_simp; rfl)
       simp only [Act.put, List.setIfInBounds_toArray, List.set_cons_zero, List.set_cons_succ]))
  refine head_call rfl rfl rfl rfl (fun w1 hC => by first | (go_simp; done) | (go_simp; rfl)) (fun w1 hC => mul_f (fadd f.z f.z) g.z w1 (lt_W (fadd_lt _ _)) (lt_W Hg.out.z)) ?_
  simp only [Act.put, List.setIfInBounds_toArray, List.set_cons_zero, List.set_cons_succ]
  rw [show fmul (fadd f.z f.z) g.z = addD f g from rfl]
  refine head_alloc rfl rfl rfl rfl (fun w1 => by first | (go_simp; done) | (go_simp; rfl)) (fun bD hbD => ?_)
  simp only [Act.put, List.setIfInBounds_toArray, List.set_cons_zero, List.set_cons_succ]
  have lz := Go.Mono.lt_of_some (hp_drew hn_bC)
  refine head_nil ?_
  intro w11 hC hown
  obtain ⟨hl_bD, hn_bD, hd_bD, -⟩ := hown
  replace hn_bD : w11.heap[bD]? = some (.cells #[.int .u64 0, .int .u64 0, .int .u64 0, .int .u64 0] 26) := hn_bD
  replace hl_bD : _ ≤ bD := hl_bD
  clear hd_bD
  have lD : bC < bD := by omega
  clear lz hl_bD hbD
  replace hw_w0 := below_tr hw_w0 hC
  replace hx := keep hC (hp_drew hx)
  replace hy := keep hC (hp_drew hy)
  replace hz := keep hC (hp_drew hz)
  replace hn_bA := keep hC (hp_drew hn_bA)
  replace hn_bB := keep hC (hp_drew hn_bB)
  replace hn_bC := keep hC (hp_drew hn_bC)
  clear hC
  refine wpList_storeBlk 4 rfl rfl rfl rfl hn_bD rfl rfl (by kernel_rfl) (by kernel_rfl) ?_
  intro w12 s12
  simp only [Act.put]
  replace hw_w0 := s12.below hw_w0 (by omega)
  replace hx := s12.other hx (by omega)
  replace hy := s12.other hy (by omega)
  replace hz := s12.other hz (by omega)
  replace hn_bA := s12.other hn_bA (by omega)
  replace hn_bB := s12.other hn_bB (by omega)
  replace hn_bC := s12.other hn_bC (by omega)
  replace hn_bD := s12.at_
  clear s12
  clear hx hy
  go_wp2_with fail
  refine wp_region_mono 12 16 [] (fun _ => .cells #[.int .u64 0, .int .u64 0, .int .u64 0, .int .u64 0] 26) (by kernel_rfl) (by kernel_rfl) (fun _ _ _ _ _ h => h) ?_
  simp only [List.take_succ_cons, List.take_zero, List.drop_succ_cons, List.drop_zero]
  repeat (first
    | (apply head_pure rfl rfl rfl
       case h => (intro w1; go_simp; rfl)
       simp only [Act.put, List.setIfInBounds_toArray, List.set_cons_zero, List.set_cons_succ])
    | (apply head_val rfl rfl rfl rfl
       case h => (intro w1 hC; have cA := cell_of (keep hC (hp_drew hn_bA)); have cB := cell_of (keep hC (hp_drew hn_bB)); clear hC; go_simp; rfl)
       simp only [Act.put, List.setIfInBounds_toArray, List.set_cons_zero, List.set_cons_succ]))
  refine head_call rfl rfl rfl rfl (fun w1 hC => by first | (go_simp; done) | (go_simp; rfl)) (fun w1 hC => sub_f (addB f g) (addA f g) w1 (lt_W (fmul_lt _ _)) (lt_W (fmul_lt _ _))) ?_
  simp only [Act.put, List.setIfInBounds_toArray, List.set_cons_zero, List.set_cons_succ]
  rw [show fsub (addB f g) (addA f g) = addE f g from rfl]
  repeat (first
    | (apply head_pure rfl rfl rfl
       case h => (intro w1; go_simp; rfl)
       simp only [Act.put, List.setIfInBounds_toArray, List.set_cons_zero, List.set_cons_succ])
    | (apply head_val rfl rfl rfl rfl
       case h => (intro w1 hC; have cA := cell_of (keep hC (hp_drew hn_bC)); have cB := cell_of (keep hC (hp_drew hn_bD)); clear hC; go_simp; rfl)
       simp only [Act.put, List.setIfInBounds_toArray, List.set_cons_zero, List.set_cons_succ]))
  refine head_call rfl rfl rfl rfl (fun w1 hC => by first | (go_simp; done) | (go_simp; rfl)) (fun w1 hC => sub_f (addD f g) (addC f g) w1 (lt_W (fmul_lt _ _)) (lt_W (fmul_lt _ _))) ?_
  simp only [Act.put, List.setIfInBounds_toArray, List.set_cons_zero, List.set_cons_succ]
  rw [show fsub (addD f g) (addC f g) = addF f g from rfl]
  repeat (first
    | (apply head_pure rfl rfl rfl
       case h => (intro w1; go_simp; rfl)
       simp only [Act.put, List.setIfInBounds_toArray, List.set_cons_zero, List.set_cons_succ])
    | (apply head_val rfl rfl rfl rfl
       case h => (intro w1 hC; have cA := cell_of (keep hC (hp_drew hn_bC)); have cB := cell_of (keep hC (hp_drew hn_bD)); clear hC; go_simp; rfl)
       simp only [Act.put, List.setIfInBounds_toArray, List.set_cons_zero, List.set_cons_succ]))
  refine head_call rfl rfl rfl rfl (fun w1 hC => by first | (go_simp; done) | (go_simp; rfl)) (fun w1 hC => add_f (addD f g) (addC f g) w1 (lt_W (fmul_lt _ _)) (lt_W (fmul_lt _ _))) ?_
  simp only [Act.put, List.setIfInBounds_toArray, List.set_cons_zero, List.set_cons_succ]
  rw [show fadd (addD f g) (addC f g) = addG f g from rfl]
  repeat (first
    | (apply head_pure rfl rfl rfl
       case h => (intro w1; go_simp; rfl)
       simp only [Act.put, List.setIfInBounds_toArray, List.set_cons_zero, List.set_cons_succ])
    | (apply head_val rfl rfl rfl rfl
       case h => (intro w1 hC; have cA := cell_of (keep hC (hp_drew hn_bA)); have cB := cell_of (keep hC (hp_drew hn_bB)); clear hC; go_simp; rfl)
       simp only [Act.put, List.setIfInBounds_toArray, List.set_cons_zero, List.set_cons_succ]))
  refine head_call rfl rfl rfl rfl (fun w1 hC => by first | (go_simp; done) | (go_simp; rfl)) (fun w1 hC => add_f (addB f g) (addA f g) w1 (lt_W (fmul_lt _ _)) (lt_W (fmul_lt _ _))) ?_
  simp only [Act.put, List.setIfInBounds_toArray, List.set_cons_zero, List.set_cons_succ]
  rw [show fadd (addB f g) (addA f g) = addH f g from rfl]
  refine head_alloc rfl rfl rfl rfl (fun w1 => by first | (go_simp; done) | (go_simp; rfl)) (fun bE hbE => ?_)
  simp only [Act.put, List.setIfInBounds_toArray, List.set_cons_zero, List.set_cons_succ]
  refine head_alloc rfl rfl rfl rfl (fun w1 => by first | (go_simp; done) | (go_simp; rfl)) (fun bF hbF => ?_)
  simp only [Act.put, List.setIfInBounds_toArray, List.set_cons_zero, List.set_cons_succ]
  refine head_alloc rfl rfl rfl rfl (fun w1 => by first | (go_simp; done) | (go_simp; rfl)) (fun bG hbG => ?_)
  simp only [Act.put, List.setIfInBounds_toArray, List.set_cons_zero, List.set_cons_succ]
  refine head_alloc rfl rfl rfl rfl (fun w1 => by first | (go_simp; done) | (go_simp; rfl)) (fun bH hbH => ?_)
  simp only [Act.put, List.setIfInBounds_toArray, List.set_cons_zero, List.set_cons_succ]
  have lz := Go.Mono.lt_of_some (hp_drew hz)
  refine head_nil ?_
  intro w13 hC hown
  obtain ⟨hl_bE, hn_bE, hd_bE, hl_bF, hn_bF, hd_bF, hl_bG, hn_bG, hd_bG, hl_bH, hn_bH, hd_bH, -⟩ := hown
  replace hn_bE : w13.heap[bE]? = some (.cells #[.int .u64 0, .int .u64 0, .int .u64 0, .int .u64 0] 26) := hn_bE
  replace hl_bE : _ ≤ bE := hl_bE
  have ne_bF_bE : bF ≠ bE := hd_bE _ (List.Mem.head _)
  have ne_bG_bE : bG ≠ bE := hd_bE _ (List.Mem.tail _ (List.Mem.head _))
  have ne_bH_bE : bH ≠ bE := hd_bE _ (List.Mem.tail _ (List.Mem.tail _ (List.Mem.head _)))
  replace hn_bF : w13.heap[bF]? = some (.cells #[.int .u64 0, .int .u64 0, .int .u64 0, .int .u64 0] 26) := hn_bF
  replace hl_bF : _ ≤ bF := hl_bF
  have ne_bG_bF : bG ≠ bF := hd_bF _ (List.Mem.head _)
  have ne_bH_bF : bH ≠ bF := hd_bF _ (List.Mem.tail _ (List.Mem.head _))
  replace hn_bG : w13.heap[bG]? = some (.cells #[.int .u64 0, .int .u64 0, .int .u64 0, .int .u64 0] 26) := hn_bG
  replace hl_bG : _ ≤ bG := hl_bG
  have ne_bH_bG : bH ≠ bG := hd_bG _ (List.Mem.head _)
  replace hn_bH : w13.heap[bH]? = some (.cells #[.int .u64 0, .int .u64 0, .int .u64 0, .int .u64 0] 26) := hn_bH
  replace hl_bH : _ ≤ bH := hl_bH
  clear hd_bE hd_bF hd_bG hd_bH
  have lE : w.heap.size + 2 < bE := by omega
  have lF : w.heap.size + 2 < bF := by omega
  have lG : w.heap.size + 2 < bG := by omega
  have lH : w.heap.size + 2 < bH := by omega
  clear lz hl_bE hl_bF hl_bG hl_bH hbE hbF hbG hbH hn_bA hn_bB hn_bC hn_bD lA lB lC lD
  replace hw_w0 := below_tr hw_w0 hC
  replace hz := keep hC (hp_drew hz)
  clear hC
  refine wpList_storeBlk 4 rfl rfl rfl rfl hn_bE rfl rfl (by kernel_rfl) (by kernel_rfl) ?_
  intro w14 s14
  simp only [Act.put]
  replace hw_w0 := s14.below hw_w0 (by omega)
  replace hz := s14.other hz (by omega)
  replace hn_bF := s14.other hn_bF (by omega)
  replace hn_bG := s14.other hn_bG (by omega)
  replace hn_bH := s14.other hn_bH (by omega)
  replace hn_bE := s14.at_
  clear s14
  refine wpList_storeBlk 4 rfl rfl rfl rfl hn_bF rfl rfl (by kernel_rfl) (by kernel_rfl) ?_
  intro w15 s15
  simp only [Act.put]
  replace hw_w0 := s15.below hw_w0 (by omega)
  replace hz := s15.other hz (by omega)
  replace hn_bE := s15.other hn_bE (by omega)
  replace hn_bG := s15.other hn_bG (by omega)
  replace hn_bH := s15.other hn_bH (by omega)
  replace hn_bF := s15.at_
  clear s15
  refine wpList_storeBlk 4 rfl rfl rfl rfl hn_bG rfl rfl (by kernel_rfl) (by kernel_rfl) ?_
  intro w16 s16
  simp only [Act.put]
  replace hw_w0 := s16.below hw_w0 (by omega)
  replace hz := s16.other hz (by omega)
  replace hn_bE := s16.other hn_bE (by omega)
  replace hn_bF := s16.other hn_bF (by omega)
  replace hn_bH := s16.other hn_bH (by omega)
  replace hn_bG := s16.at_
  clear s16
  refine wpList_storeBlk 4 rfl rfl rfl rfl hn_bH rfl rfl (by kernel_rfl) (by kernel_rfl) ?_
  intro w17 s17
  simp only [Act.put]
  replace hw_w0 := s17.below hw_w0 (by omega)
  replace hz := s17.other hz (by omega)
  replace hn_bE := s17.other hn_bE (by omega)
  replace hn_bF := s17.other hn_bF (by omega)
  replace hn_bG := s17.other hn_bG (by omega)
  replace hn_bH := s17.at_
  clear s17
  go_wp2_with fail
  refine wp_region_mono 13 13 [] (fun _ => default) (by kernel_rfl) (by kernel_rfl) (fun _ _ _ _ _ h => h) ?_
  simp only [List.take_succ_cons, List.take_zero, List.drop_succ_cons, List.drop_zero]
  repeat (first
    | (apply head_pure rfl rfl rfl
       case h => (intro w1; go_simp; rfl)
       simp only [Act.put, List.setIfInBounds_toArray, List.set_cons_zero, List.set_cons_succ])
    | (apply head_val rfl rfl rfl rfl
       case h => (intro w1 hC; have cA := cell_of (keep hC (hp_drew hn_bE)); have cB := cell_of (keep hC (hp_drew hn_bF)); clear hC; go_simp; rfl)
       simp only [Act.put, List.setIfInBounds_toArray, List.set_cons_zero, List.set_cons_succ]))
  refine head_call rfl rfl rfl rfl (fun w1 hC => by first | (go_simp; done) | (go_simp; rfl)) (fun w1 hC => mul_f (addE f g) (addF f g) w1 (lt_W (fsub_lt _ _)) (lt_W (fsub_lt _ _))) ?_
  simp only [Act.put, List.setIfInBounds_toArray, List.set_cons_zero, List.set_cons_succ]
  rw [show fmul (addE f g) (addF f g) = addX f g from rfl]
  repeat (first
    | (apply head_pure rfl rfl rfl
       case h => (intro w1; go_simp; rfl)
       simp only [Act.put, List.setIfInBounds_toArray, List.set_cons_zero, List.set_cons_succ])
    | (apply head_val rfl rfl rfl rfl
       case h => (intro w1 hC; have cA := cell_of (keep hC (hp_drew hn_bG)); have cB := cell_of (keep hC (hp_drew hn_bH)); clear hC; go_simp; rfl)
       simp only [Act.put, List.setIfInBounds_toArray, List.set_cons_zero, List.set_cons_succ]))
  refine head_call rfl rfl rfl rfl (fun w1 hC => by first | (go_simp; done) | (go_simp; rfl)) (fun w1 hC => mul_f (addG f g) (addH f g) w1 (lt_W (fadd_lt _ _)) (lt_W (fadd_lt _ _))) ?_
  simp only [Act.put, List.setIfInBounds_toArray, List.set_cons_zero, List.set_cons_succ]
  rw [show fmul (addG f g) (addH f g) = addY f g from rfl]
  repeat (first
    | (apply head_pure rfl rfl rfl
       case h => (intro w1; go_simp; rfl)
       simp only [Act.put, List.setIfInBounds_toArray, List.set_cons_zero, List.set_cons_succ])
    | (apply head_val rfl rfl rfl rfl
       case h => (intro w1 hC; have cA := cell_of (keep hC (hp_drew hn_bF)); have cB := cell_of (keep hC (hp_drew hn_bG)); clear hC; go_simp; rfl)
       simp only [Act.put, List.setIfInBounds_toArray, List.set_cons_zero, List.set_cons_succ]))
  refine head_call rfl rfl rfl rfl (fun w1 hC => by first | (go_simp; done) | (go_simp; rfl)) (fun w1 hC => mul_f (addF f g) (addG f g) w1 (lt_W (fsub_lt _ _)) (lt_W (fadd_lt _ _))) ?_
  simp only [Act.put, List.setIfInBounds_toArray, List.set_cons_zero, List.set_cons_succ]
  rw [show fmul (addF f g) (addG f g) = addZ f g from rfl]
  repeat (first
    | (apply head_pure rfl rfl rfl
       case h => (intro w1; go_simp; rfl)
       simp only [Act.put, List.setIfInBounds_toArray, List.set_cons_zero, List.set_cons_succ])
    | (apply head_val rfl rfl rfl rfl
       case h => (intro w1 hC; have cA := cell_of (keep hC (hp_drew hn_bE)); have cB := cell_of (keep hC (hp_drew hn_bH)); clear hC; go_simp; rfl)
       simp only [Act.put, List.setIfInBounds_toArray, List.set_cons_zero, List.set_cons_succ]))
  refine head_call rfl rfl rfl rfl (fun w1 hC => by first | (go_simp; done) | (go_simp; rfl)) (fun w1 hC => mul_f (addE f g) (addH f g) w1 (lt_W (fsub_lt _ _)) (lt_W (fadd_lt _ _))) ?_
  simp only [Act.put, List.setIfInBounds_toArray, List.set_cons_zero, List.set_cons_succ]
  rw [show fmul (addE f g) (addH f g) = addT f g from rfl]
  repeat
    (apply head_pure rfl rfl rfl
     case h => (intro w1; go_simp; rfl)
     simp only [Act.put, List.setIfInBounds_toArray, List.set_cons_zero, List.set_cons_succ])
  refine head_nil ?_
  intro w18 hC _
  replace hw_w0 := below_tr hw_w0 hC
  replace hz := keep hC (hp_drew hz)
  clear hC
  refine wpList_storeBlk 16 rfl rfl rfl rfl hz rfl rfl (by kernel_rfl) (by kernel_rfl) ?_
  intro w19 s19
  simp only [Act.put]
  replace hw_w0 := s19.below hw_w0 (by omega)
  replace hz := s19.at_
  clear s19
  go_wp2
  exact bodyPost_ret (results_blk Try.results30 rfl hz Try.underlying54 rfl (by kernel_rfl)) rfl ⟨rfl, hw_w0⟩
end Go.Proofs.Ytdhaedjmlddjcaa
