/- point.free.point, point.Add, point.falling, point.Mul: what each call comes to, for numbers below the prime. No other conditions. -/
import Derived.Test.YtdhaedjmlddjcaaPointA
namespace Go.Proofs.Ytdhaedjmlddjcaa
open Go.RowKit Go.Mono Go.Num
attribute [local go_sem] Oper.semAt_some

set_option maxHeartbeats 1000000 in
theorem point_p (f : F4) (w : World) (hf : f.ok) :
    Calls Try.prog 31 #[f.v] w fun e w' => e = .returned (pt (ptX f) (ptY f)) ∧ Below w.heap.size w w' := by
  have Hf := Lib.hid hf
  clear hf
  go_enter Try.func31, Try.ntmps31
  go_wp2_with fail
  obtain ⟨w0, hq_w0⟩ : ∃ w0, ((w.alloc (.cells #[.int .u64 (wd (f.x) 0), .int .u64 (wd (f.x) 1), .int .u64 (wd (f.x) 2), .int .u64 (wd (f.x) 3), .int .u64 (wd (f.y) 0), .int .u64 (wd (f.y) 1), .int .u64 (wd (f.y) 2), .int .u64 (wd (f.y) 3), .int .u64 (wd (f.z) 0), .int .u64 (wd (f.z) 1), .int .u64 (wd (f.z) 2), .int .u64 (wd (f.z) 3), .int .u64 (wd (f.t) 0), .int .u64 (wd (f.t) 1), .int .u64 (wd (f.t) 2), .int .u64 (wd (f.t) 3)] 54)).alloc (.cells #[.int .u64 0, .int .u64 0, .int .u64 0, .int .u64 0, .int .u64 0, .int .u64 0, .int .u64 0, .int .u64 0] 28)) = w0 := ⟨_, rfl⟩
  have hx : w0.heap[w.heap.size]? = some (.cells #[.int .u64 (wd (f.x) 0), .int .u64 (wd (f.x) 1), .int .u64 (wd (f.x) 2), .int .u64 (wd (f.x) 3), .int .u64 (wd (f.y) 0), .int .u64 (wd (f.y) 1), .int .u64 (wd (f.y) 2), .int .u64 (wd (f.y) 3), .int .u64 (wd (f.z) 0), .int .u64 (wd (f.z) 1), .int .u64 (wd (f.z) 2), .int .u64 (wd (f.z) 3), .int .u64 (wd (f.t) 0), .int .u64 (wd (f.t) 1), .int .u64 (wd (f.t) 2), .int .u64 (wd (f.t) 3)] 54) := by rw [← hq_w0]; exact hp_old _ (hp_new _ (by simp))
  have hz : w0.heap[w.heap.size + 1]? = some (.cells #[.int .u64 0, .int .u64 0, .int .u64 0, .int .u64 0, .int .u64 0, .int .u64 0, .int .u64 0, .int .u64 0] 28) := by rw [← hq_w0]; exact hp_new _ (by simp)
  have hs_w0 : w0.heap.size = w.heap.size + 2 := by rw [← hq_w0]; simp
  have hw_w0 : Below w.heap.size w w0 := by rw [← hq_w0]; exact ((Below.refl w.heap.size w).alloc (Nat.le_refl _) _).alloc (by simp) _
  rw [hq_w0]
  clear hq_w0
  clear hs_w0
  have cx := cell_of hx
  go_wp2_with fail
  refine (inv_f f.z _ (lt_W Hf.out.z)).mono ?_
  rintro e w1 ⟨rfl, hb⟩
  clear cx
  replace hw_w0 := below_tr' hw_w0 hb
  replace hx := keep hb hx
  replace hz := keep hb hz
  clear hb
  go_wp2
  have lz := Go.Mono.lt_of_some hz
  obtain ⟨w2, hq_w2⟩ : ∃ w2, (w1.alloc (.cells #[.int .u64 (wd (finv f.z) 0), .int .u64 (wd (finv f.z) 1), .int .u64 (wd (finv f.z) 2), .int .u64 (wd (finv f.z) 3)] 26)) = w2 := ⟨_, rfl⟩
  have hi : w2.heap[w1.heap.size]? = some (.cells #[.int .u64 (wd (finv f.z) 0), .int .u64 (wd (finv f.z) 1), .int .u64 (wd (finv f.z) 2), .int .u64 (wd (finv f.z) 3)] 26) := by rw [← hq_w2]; exact hp_new _ (by simp)
  have hs_w2 : w2.heap.size = w1.heap.size + 1 := by rw [← hq_w2]; simp
  have hw_w2 : Below w1.heap.size w1 w2 := by rw [← hq_w2]; exact (Below.refl w1.heap.size w1).alloc (Nat.le_refl _) _
  rw [hq_w2]
  clear hq_w2
  clear hs_w2
  replace hw_w0 := below_tr' hw_w0 hw_w2
  replace hx := keep hw_w2 hx
  replace hz := keep hw_w2 hz
  clear hw_w2
  generalize w1.heap.size = bI at *
  refine wp_region_mono 9 9 [] (fun _ => default) (by kernel_rfl) (by kernel_rfl) (fun _ _ _ _ _ h => h) ?_
  simp only [List.take_succ_cons, List.take_zero, List.drop_succ_cons, List.drop_zero]
  repeat (first
    | (apply head_pure rfl rfl rfl
       case h => (intro w1; go_simp; rfl)
       simp only [Act.put, List.setIfInBounds_toArray, List.set_cons_zero, List.set_cons_succ])
    | (apply head_val rfl rfl rfl rfl
       case h => (intro w1 hC; have cx := cell_of (keep hC (hp_drew hx)); have ci := cell_of (keep hC (hp_drew hi)); clear hC; go_simp; rfl)
       simp only [Act.put, List.setIfInBounds_toArray, List.set_cons_zero, List.set_cons_succ]))
  refine head_call rfl rfl rfl rfl (fun w1 hC => by first | (go_simp; done) | (go_simp; rfl)) (fun w1 hC => mul_f f.x (finv f.z) w1 (lt_W Hf.out.x) (lt_W (finv_lt _))) ?_
  simp only [Act.put, List.setIfInBounds_toArray, List.set_cons_zero, List.set_cons_succ]
  rw [show fmul f.x (finv f.z) = ptX f from rfl]
  repeat (first
    | (apply head_pure rfl rfl rfl
       case h => (intro w1; go_simp; rfl)
       simp only [Act.put, List.setIfInBounds_toArray, List.set_cons_zero, List.set_cons_succ])
    | (apply head_val rfl rfl rfl rfl
       case h => (intro w1 hC; have cx := cell_of (keep hC (hp_drew hx)); have ci := cell_of (keep hC (hp_drew hi)); clear hC; go_simp; rfl)
       simp only [Act.put, List.setIfInBounds_toArray, List.set_cons_zero, List.set_cons_succ]))
  refine head_call rfl rfl rfl rfl (fun w1 hC => by first | (go_simp; done) | (go_simp; rfl)) (fun w1 hC => mul_f f.y (finv f.z) w1 (lt_W Hf.out.y) (lt_W (finv_lt _))) ?_
  simp only [Act.put, List.setIfInBounds_toArray, List.set_cons_zero, List.set_cons_succ]
  rw [show fmul f.y (finv f.z) = ptY f from rfl]
  repeat
    (apply head_pure rfl rfl rfl
     case h => (intro w1; go_simp; rfl)
     simp only [Act.put, List.setIfInBounds_toArray, List.set_cons_zero, List.set_cons_succ])
  refine head_nil ?_
  intro w3 hC _
  replace hw_w0 := below_tr hw_w0 hC
  replace hz := keep hC (hp_drew hz)
  clear hC
  refine wpList_storeBlk 8 rfl rfl rfl rfl hz rfl rfl (by kernel_rfl) (by kernel_rfl) ?_
  intro w4 s4
  simp only [Act.put]
  replace hw_w0 := s4.below hw_w0 (by omega)
  replace hz := s4.at_
  clear s4
  go_wp2
  exact bodyPost_ret (results_blk Try.results31 rfl hz Try.underlying28 rfl (by kernel_rfl)) rfl ⟨rfl, hw_w0⟩

/-- What point.Add computes. -/
def sumX (x y u v : Nat) : Nat := ptX (addP (ofP x y) (ofP u v))
def sumY (x y u v : Nat) : Nat := ptY (addP (ofP x y) (ofP u v))

set_option maxHeartbeats 1000000 in
theorem padd_any (x y u v : Nat) (w : World) (hx : x < p) (hy : y < p) (hu : u < p) (hv : v < p) :
    Calls Try.prog 17 #[pt x y, pt u v] w fun e w' => e = .returned (pt (sumX x y u v) (sumY x y u v)) ∧ Below w.heap.size w w' := by
  have Hx := Lib.hid hx
  have Hy := Lib.hid hy
  have Hu := Lib.hid hu
  have Hv := Lib.hid hv
  clear hx hy hu hv
  go_enter Try.func17, Try.ntmps17
  go_wp2_with fail
  obtain ⟨w0, hq_w0⟩ : ∃ w0, (((w.alloc (.cells #[.int .u64 (wd x 0), .int .u64 (wd x 1), .int .u64 (wd x 2), .int .u64 (wd x 3), .int .u64 (wd y 0), .int .u64 (wd y 1), .int .u64 (wd y 2), .int .u64 (wd y 3)] 28)).alloc (.cells #[.int .u64 (wd u 0), .int .u64 (wd u 1), .int .u64 (wd u 2), .int .u64 (wd u 3), .int .u64 (wd v 0), .int .u64 (wd v 1), .int .u64 (wd v 2), .int .u64 (wd v 3)] 28)).alloc (.cells #[.int .u64 0, .int .u64 0, .int .u64 0, .int .u64 0, .int .u64 0, .int .u64 0, .int .u64 0, .int .u64 0] 28)) = w0 := ⟨_, rfl⟩
  have hx : w0.heap[w.heap.size]? = some (.cells #[.int .u64 (wd x 0), .int .u64 (wd x 1), .int .u64 (wd x 2), .int .u64 (wd x 3), .int .u64 (wd y 0), .int .u64 (wd y 1), .int .u64 (wd y 2), .int .u64 (wd y 3)] 28) := by rw [← hq_w0]; exact hp_old _ (hp_old _ (hp_new _ (by simp)))
  have hy : w0.heap[w.heap.size + 1]? = some (.cells #[.int .u64 (wd u 0), .int .u64 (wd u 1), .int .u64 (wd u 2), .int .u64 (wd u 3), .int .u64 (wd v 0), .int .u64 (wd v 1), .int .u64 (wd v 2), .int .u64 (wd v 3)] 28) := by rw [← hq_w0]; exact hp_old _ (hp_new _ (by simp))
  have hz : w0.heap[w.heap.size + 1 + 1]? = some (.cells #[.int .u64 0, .int .u64 0, .int .u64 0, .int .u64 0, .int .u64 0, .int .u64 0, .int .u64 0, .int .u64 0] 28) := by rw [← hq_w0]; exact hp_new _ (by simp)
  have hs_w0 : w0.heap.size = w.heap.size + 3 := by rw [← hq_w0]; simp
  have hw_w0 : Below w.heap.size w w0 := by rw [← hq_w0]; exact (((Below.refl w.heap.size w).alloc (Nat.le_refl _) _).alloc (by simp) _).alloc (by simp; omega) _
  rw [hq_w0]
  clear hq_w0
  clear hs_w0
  refine wp_region_mono 6 6 [] (fun _ => default) (by kernel_rfl) (by kernel_rfl) (fun _ _ _ _ _ h => h) ?_
  simp only [List.take_succ_cons, List.take_zero, List.drop_succ_cons, List.drop_zero]
  repeat (first
    | (apply head_pure rfl rfl rfl
       case h => (intro w1; go_simp; rfl)
       simp only [Act.put, List.setIfInBounds_toArray, List.set_cons_zero, List.set_cons_succ])
    | (apply head_val rfl rfl rfl rfl
       case h => (intro w1 hC; have cx := cell_of (keep hC (hp_drew hx)); have cy := cell_of (keep hC (hp_drew hy)); clear hC; go_simp; rfl)
       simp only [Act.put, List.setIfInBounds_toArray, List.set_cons_zero, List.set_cons_succ]))
  refine head_call rfl rfl rfl rfl (fun w1 hC => by first | (go_simp; done) | (go_simp; rfl)) (fun w1 hC => of_any x y w1 (lt_W Hx.out) (lt_W Hy.out)) ?_
  simp only [Act.put, List.setIfInBounds_toArray, List.set_cons_zero, List.set_cons_succ]
  repeat (first
    | (apply head_pure rfl rfl rfl
       case h => (intro w1; go_simp; rfl)
       simp only [Act.put, List.setIfInBounds_toArray, List.set_cons_zero, List.set_cons_succ])
    | (apply head_val rfl rfl rfl rfl
       case h => (intro w1 hC; have cx := cell_of (keep hC (hp_drew hx)); have cy := cell_of (keep hC (hp_drew hy)); clear hC; go_simp; rfl)
       simp only [Act.put, List.setIfInBounds_toArray, List.set_cons_zero, List.set_cons_succ]))
  refine head_call rfl rfl rfl rfl (fun w1 hC => by first | (go_simp; done) | (go_simp; rfl)) (fun w1 hC => of_any u v w1 (lt_W Hu.out) (lt_W Hv.out)) ?_
  simp only [Act.put, List.setIfInBounds_toArray, List.set_cons_zero, List.set_cons_succ]
  refine head_call rfl rfl rfl rfl (fun w1 hC => by first | (go_simp; done) | (go_simp; rfl)) (fun w1 hC => add_p (ofP x y) (ofP u v) w1 (ofP_ok Hx.out Hy.out) (ofP_ok Hu.out Hv.out)) ?_
  simp only [Act.put, List.setIfInBounds_toArray, List.set_cons_zero, List.set_cons_succ]
  refine head_call rfl rfl rfl rfl (fun w1 hC => by first | (go_simp; done) | (go_simp; rfl)) (fun w1 hC => point_p (addP (ofP x y) (ofP u v)) w1 (addP_ok _ _)) ?_
  simp only [Act.put, List.setIfInBounds_toArray, List.set_cons_zero, List.set_cons_succ]
  rw [show ptX (addP (ofP x y) (ofP u v)) = sumX x y u v from rfl, show ptY (addP (ofP x y) (ofP u v)) = sumY x y u v from rfl]
  refine head_nil ?_
  intro w3 hC _
  replace hw_w0 := below_tr hw_w0 hC
  replace hz := keep hC (hp_drew hz)
  clear hC
  refine wpList_storeBlk 8 rfl rfl rfl rfl hz rfl rfl (by kernel_rfl) (by kernel_rfl) ?_
  intro w4 s4
  simp only [Act.put]
  replace hw_w0 := s4.below hw_w0 (by omega)
  replace hz := s4.at_
  clear s4
  go_wp2
  exact bodyPost_ret (results_blk Try.results17 rfl hz Try.underlying28 rfl (by kernel_rfl)) rfl ⟨rfl, hw_w0⟩
end Go.Proofs.Ytdhaedjmlddjcaa
