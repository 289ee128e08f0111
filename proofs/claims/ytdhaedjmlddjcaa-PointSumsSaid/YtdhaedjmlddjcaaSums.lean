/- law8.PointSums: whatever the numbers, it returns true. No conditions beyond the sizes. -/
import Derived.Test.YtdhaedjmlddjcaaSome
import Derived.Test.YtdhaedjmlddjcaaAll
namespace Go.Proofs.Ytdhaedjmlddjcaa
open Go.RowKit Go.Mono Go.Num Go.Crv
set_option maxHeartbeats 2000000 in
theorem sums_any (a b ta tb k : Nat) (w : World) (ha : a < 18446744073709551616) (hb : b < 18446744073709551616) (hta : ta < 256) (htb : tb < 256) (hk : k < W ^ 4) :
    Calls Try.prog 4 #[.int .u64 a, .int .u64 b, .int .u8 ta, .int .u8 tb, num k] w fun e w' => e = .returned (.bool true) ∧ Below w.heap.size w w' := by
  have hP := someP_on a ta
  have hQ := someP_on b tb
  have h1 := fun w => some_any a ta w ha hta
  have h2 := fun w => some_any b tb w hb htb
  generalize someP a ta = P at *
  generalize someP b tb = Q at *
  have c1 := fun w => add_g P Q w hP hQ
  have c2 := fun w => radd_g P Q w hP hQ
  have c3 := fun w => mul_g k P w hk hP
  have c4 := fun w => rmul_g k P w hk hP
  have c5 := fun w => pbytes_any P.x.val P.y.val w (val_W _)
  have c6 := fun w => rbytesp_any P.x.val P.y.val w (val_W _)
  have c7 := fun w => on_g P w hP
  have c8 := fun w => awake_any w
  have q1 := fun w => eq_pt_self (gsum P Q).x.val (gsum P Q).y.val w (val_W _) (val_W _)
  have q2 := fun w => eq_pt_self (gmul P k).x.val (gmul P k).y.val w (val_W _) (val_W _)
  clear hP hQ ha hb hta htb hk
  generalize (gsum P Q).x.val = SX at *
  generalize (gsum P Q).y.val = SY at *
  generalize (gmul P k).x.val = MX at *
  generalize (gmul P k).y.val = MY at *
  generalize bstr (pbyte P.x.val P.y.val) 32 = T at *
  generalize P.x.val = PX at *
  generalize P.y.val = PY at *
  generalize Q.x.val = QX at *
  generalize Q.y.val = QY at *
  have htr : (T.toList == T.toList) = true := by simp
  have Q1 := Lib.hid q1
  have Q2 := Lib.hid q2
  clear q1 q2
  go_enter Try.func4, Try.ntmps4
  go_wp2_with fail
  obtain ⟨w0, hq_w0⟩ : ∃ w0, (w.alloc (.cells #[.int .u64 (wd k 0), .int .u64 (wd k 1), .int .u64 (wd k 2), .int .u64 (wd k 3)] 26)) = w0 := ⟨_, rfl⟩
  have hK : w0.heap[w.heap.size]? = some (.cells #[.int .u64 (wd k 0), .int .u64 (wd k 1), .int .u64 (wd k 2), .int .u64 (wd k 3)] 26) := by rw [← hq_w0]; exact hp_new _ (by simp)
  have hs_w0 : w0.heap.size = w.heap.size + 1 := by rw [← hq_w0]; simp
  have hw_w0 : Below w.heap.size w w0 := by rw [← hq_w0]; exact (Below.refl w.heap.size w).alloc (Nat.le_refl _) _
  rw [hq_w0]
  clear hq_w0
  clear hs_w0
  refine (h1 _).mono ?_
  rintro e w1 ⟨rfl, hb⟩
  replace hw_w0 := below_tr' hw_w0 hb
  replace hK := keep hb hK
  clear hb
  go_wp2_with fail
  refine (h2 _).mono ?_
  rintro e w2 ⟨rfl, hb⟩
  replace hw_w0 := below_tr' hw_w0 hb
  replace hK := keep hb hK
  clear hb
  go_wp2_with fail
  have lK := Go.Mono.lt_of_some hK
  obtain ⟨w3, hq_w3⟩ : ∃ w3, ((w2.alloc (.cells #[.int .u64 (wd PX 0), .int .u64 (wd PX 1), .int .u64 (wd PX 2), .int .u64 (wd PX 3), .int .u64 (wd PY 0), .int .u64 (wd PY 1), .int .u64 (wd PY 2), .int .u64 (wd PY 3)] 28)).alloc (.cells #[.int .u64 (wd QX 0), .int .u64 (wd QX 1), .int .u64 (wd QX 2), .int .u64 (wd QX 3), .int .u64 (wd QY 0), .int .u64 (wd QY 1), .int .u64 (wd QY 2), .int .u64 (wd QY 3)] 28)) = w3 := ⟨_, rfl⟩
  have hP : w3.heap[w2.heap.size]? = some (.cells #[.int .u64 (wd PX 0), .int .u64 (wd PX 1), .int .u64 (wd PX 2), .int .u64 (wd PX 3), .int .u64 (wd PY 0), .int .u64 (wd PY 1), .int .u64 (wd PY 2), .int .u64 (wd PY 3)] 28) := by rw [← hq_w3]; exact hp_old _ (hp_new _ (by simp))
  have hQ : w3.heap[w2.heap.size + 1]? = some (.cells #[.int .u64 (wd QX 0), .int .u64 (wd QX 1), .int .u64 (wd QX 2), .int .u64 (wd QX 3), .int .u64 (wd QY 0), .int .u64 (wd QY 1), .int .u64 (wd QY 2), .int .u64 (wd QY 3)] 28) := by rw [← hq_w3]; exact hp_new _ (by simp)
  have hs_w3 : w3.heap.size = w2.heap.size + 2 := by rw [← hq_w3]; simp
  have hw_w3 : Below w2.heap.size w2 w3 := by rw [← hq_w3]; exact ((Below.refl w2.heap.size w2).alloc (Nat.le_refl _) _).alloc (by simp) _
  rw [hq_w3]
  clear hq_w3
  replace hw_w0 := below_tr' hw_w0 hw_w3
  replace hK := keep hw_w3 hK
  clear hw_w3
  clear hs_w3 h1 h2
  generalize w2.heap.size = bP at *
  refine wp_region_calm (by kernel_rfl) (by kernel_rfl) ?_
  first
    | (refine calm_not rfl ?_
       simp only [Act.put, List.setIfInBounds_toArray, List.set_cons_zero, List.set_cons_succ])
    | (apply calm_pure rfl
       case h => (intro w1; go_simp; rfl)
       simp only [Act.put, List.setIfInBounds_toArray, List.set_cons_zero, List.set_cons_succ])
    | (apply calm_val rfl
       case h => (intro w1 hC; have cP := cell_of (keep hC (hp_drew hP)); have cQ := cell_of (keep hC (hp_drew hQ)); clear hC; go_simp; rfl)
       simp only [Act.put, List.setIfInBounds_toArray, List.set_cons_zero, List.set_cons_succ])
  first
    | (refine calm_not rfl ?_
       simp only [Act.put, List.setIfInBounds_toArray, List.set_cons_zero, List.set_cons_succ])
    | (apply calm_pure rfl
       case h => (intro w1; go_simp; rfl)
       simp only [Act.put, List.setIfInBounds_toArray, List.set_cons_zero, List.set_cons_succ])
    | (apply calm_val rfl
       case h => (intro w1 hC; have cP := cell_of (keep hC (hp_drew hP)); have cQ := cell_of (keep hC (hp_drew hQ)); clear hC; go_simp; rfl)
       simp only [Act.put, List.setIfInBounds_toArray, List.set_cons_zero, List.set_cons_succ])
  refine calm_call rfl (fun w1 hC => by first | (go_simp; done) | (go_simp; rfl)) (fun w1 hC => c1 w1) ?_
  simp only [Act.put, List.setIfInBounds_toArray, List.set_cons_zero, List.set_cons_succ]
  first
    | (refine calm_not rfl ?_
       simp only [Act.put, List.setIfInBounds_toArray, List.set_cons_zero, List.set_cons_succ])
    | (apply calm_pure rfl
       case h => (intro w1; go_simp; rfl)
       simp only [Act.put, List.setIfInBounds_toArray, List.set_cons_zero, List.set_cons_succ])
    | (apply calm_val rfl
       case h => (intro w1 hC; have cP := cell_of (keep hC (hp_drew hP)); have cQ := cell_of (keep hC (hp_drew hQ)); clear hC; go_simp; rfl)
       simp only [Act.put, List.setIfInBounds_toArray, List.set_cons_zero, List.set_cons_succ])
  first
    | (refine calm_not rfl ?_
       simp only [Act.put, List.setIfInBounds_toArray, List.set_cons_zero, List.set_cons_succ])
    | (apply calm_pure rfl
       case h => (intro w1; go_simp; rfl)
       simp only [Act.put, List.setIfInBounds_toArray, List.set_cons_zero, List.set_cons_succ])
    | (apply calm_val rfl
       case h => (intro w1 hC; have cP := cell_of (keep hC (hp_drew hP)); have cQ := cell_of (keep hC (hp_drew hQ)); clear hC; go_simp; rfl)
       simp only [Act.put, List.setIfInBounds_toArray, List.set_cons_zero, List.set_cons_succ])
  refine calm_call rfl (fun w1 hC => by first | (go_simp; done) | (go_simp; rfl)) (fun w1 hC => c2 w1) ?_
  simp only [Act.put, List.setIfInBounds_toArray, List.set_cons_zero, List.set_cons_succ]
  refine calm_val (v := .bool true) rfl (fun w1 hC => exec_eqP _ _ true w1 (Q1.out w1) _ _ _ rfl rfl rfl) ?_
  simp only [Act.put, List.setIfInBounds_toArray, List.set_cons_zero, List.set_cons_succ]
  first
    | (refine calm_not rfl ?_
       simp only [Act.put, List.setIfInBounds_toArray, List.set_cons_zero, List.set_cons_succ])
    | (apply calm_pure rfl
       case h => (intro w1; go_simp; rfl)
       simp only [Act.put, List.setIfInBounds_toArray, List.set_cons_zero, List.set_cons_succ])
    | (apply calm_val rfl
       case h => (intro w1 hC; have cP := cell_of (keep hC (hp_drew hP)); have cK := cell4 (keep hC (hp_drew hK)); clear hC; go_simp; rfl)
       simp only [Act.put, List.setIfInBounds_toArray, List.set_cons_zero, List.set_cons_succ])
  first
    | (refine calm_not rfl ?_
       simp only [Act.put, List.setIfInBounds_toArray, List.set_cons_zero, List.set_cons_succ])
    | (apply calm_pure rfl
       case h => (intro w1; go_simp; rfl)
       simp only [Act.put, List.setIfInBounds_toArray, List.set_cons_zero, List.set_cons_succ])
    | (apply calm_val rfl
       case h => (intro w1 hC; have cP := cell_of (keep hC (hp_drew hP)); have cK := cell4 (keep hC (hp_drew hK)); clear hC; go_simp; rfl)
       simp only [Act.put, List.setIfInBounds_toArray, List.set_cons_zero, List.set_cons_succ])
  first
    | (refine calm_not rfl ?_
       simp only [Act.put, List.setIfInBounds_toArray, List.set_cons_zero, List.set_cons_succ])
    | (apply calm_pure rfl
       case h => (intro w1; go_simp; rfl)
       simp only [Act.put, List.setIfInBounds_toArray, List.set_cons_zero, List.set_cons_succ])
    | (apply calm_val rfl
       case h => (intro w1 hC; have cP := cell_of (keep hC (hp_drew hP)); have cK := cell4 (keep hC (hp_drew hK)); clear hC; go_simp; rfl)
       simp only [Act.put, List.setIfInBounds_toArray, List.set_cons_zero, List.set_cons_succ])
  refine calm_call rfl (fun w1 hC => by first | (go_simp; done) | (go_simp; rfl)) (fun w1 hC => c3 w1) ?_
  simp only [Act.put, List.setIfInBounds_toArray, List.set_cons_zero, List.set_cons_succ]
  first
    | (refine calm_not rfl ?_
       simp only [Act.put, List.setIfInBounds_toArray, List.set_cons_zero, List.set_cons_succ])
    | (apply calm_pure rfl
       case h => (intro w1; go_simp; rfl)
       simp only [Act.put, List.setIfInBounds_toArray, List.set_cons_zero, List.set_cons_succ])
    | (apply calm_val rfl
       case h => (intro w1 hC; have cP := cell_of (keep hC (hp_drew hP)); have cK := cell4 (keep hC (hp_drew hK)); clear hC; go_simp; rfl)
       simp only [Act.put, List.setIfInBounds_toArray, List.set_cons_zero, List.set_cons_succ])
  first
    | (refine calm_not rfl ?_
       simp only [Act.put, List.setIfInBounds_toArray, List.set_cons_zero, List.set_cons_succ])
    | (apply calm_pure rfl
       case h => (intro w1; go_simp; rfl)
       simp only [Act.put, List.setIfInBounds_toArray, List.set_cons_zero, List.set_cons_succ])
    | (apply calm_val rfl
       case h => (intro w1 hC; have cP := cell_of (keep hC (hp_drew hP)); have cK := cell4 (keep hC (hp_drew hK)); clear hC; go_simp; rfl)
       simp only [Act.put, List.setIfInBounds_toArray, List.set_cons_zero, List.set_cons_succ])
  refine calm_call rfl (fun w1 hC => by first | (go_simp; done) | (go_simp; rfl)) (fun w1 hC => c4 w1) ?_
  simp only [Act.put, List.setIfInBounds_toArray, List.set_cons_zero, List.set_cons_succ]
  refine calm_val (v := .bool true) rfl (fun w1 hC => exec_eqP _ _ true w1 (Q2.out w1) _ _ _ rfl rfl rfl) ?_
  simp only [Act.put, List.setIfInBounds_toArray, List.set_cons_zero, List.set_cons_succ]
  first
    | (refine calm_not rfl ?_
       simp only [Act.put, List.setIfInBounds_toArray, List.set_cons_zero, List.set_cons_succ])
    | (apply calm_pure rfl
       case h => (intro w1; go_simp; rfl)
       simp only [Act.put, List.setIfInBounds_toArray, List.set_cons_zero, List.set_cons_succ])
    | (apply calm_val rfl
       case h => (intro w1 hC; have cP := cell_of (keep hC (hp_drew hP)); clear hC; go_simp; rfl)
       simp only [Act.put, List.setIfInBounds_toArray, List.set_cons_zero, List.set_cons_succ])
  first
    | (refine calm_not rfl ?_
       simp only [Act.put, List.setIfInBounds_toArray, List.set_cons_zero, List.set_cons_succ])
    | (apply calm_pure rfl
       case h => (intro w1; go_simp; rfl)
       simp only [Act.put, List.setIfInBounds_toArray, List.set_cons_zero, List.set_cons_succ])
    | (apply calm_val rfl
       case h => (intro w1 hC; have cP := cell_of (keep hC (hp_drew hP)); clear hC; go_simp; rfl)
       simp only [Act.put, List.setIfInBounds_toArray, List.set_cons_zero, List.set_cons_succ])
  first
    | (refine calm_not rfl ?_
       simp only [Act.put, List.setIfInBounds_toArray, List.set_cons_zero, List.set_cons_succ])
    | (apply calm_pure rfl
       case h => (intro w1; go_simp; rfl)
       simp only [Act.put, List.setIfInBounds_toArray, List.set_cons_zero, List.set_cons_succ])
    | (apply calm_val rfl
       case h => (intro w1 hC; have cP := cell_of (keep hC (hp_drew hP)); clear hC; go_simp; rfl)
       simp only [Act.put, List.setIfInBounds_toArray, List.set_cons_zero, List.set_cons_succ])
  refine calm_call rfl (fun w1 hC => by first | (go_simp; done) | (go_simp; rfl)) (fun w1 hC => c5 w1) ?_
  simp only [Act.put, List.setIfInBounds_toArray, List.set_cons_zero, List.set_cons_succ]
  first
    | (refine calm_not rfl ?_
       simp only [Act.put, List.setIfInBounds_toArray, List.set_cons_zero, List.set_cons_succ])
    | (apply calm_pure rfl
       case h => (intro w1; go_simp; rfl)
       simp only [Act.put, List.setIfInBounds_toArray, List.set_cons_zero, List.set_cons_succ])
    | (apply calm_val rfl
       case h => (intro w1 hC; have cP := cell_of (keep hC (hp_drew hP)); clear hC; go_simp; rfl)
       simp only [Act.put, List.setIfInBounds_toArray, List.set_cons_zero, List.set_cons_succ])
  refine calm_call rfl (fun w1 hC => by first | (go_simp; done) | (go_simp; rfl)) (fun w1 hC => c6 w1) ?_
  simp only [Act.put, List.setIfInBounds_toArray, List.set_cons_zero, List.set_cons_succ]
  first
    | (refine calm_not rfl ?_
       simp only [Act.put, List.setIfInBounds_toArray, List.set_cons_zero, List.set_cons_succ])
    | (apply calm_pure rfl
       case h => (intro w1; go_simp; rfl)
       simp only [Act.put, List.setIfInBounds_toArray, List.set_cons_zero, List.set_cons_succ])
    | (apply calm_val rfl
       case h => (intro w1 hC; have cP := cell_of (keep hC (hp_drew hP)); clear hC; go_simp; rfl)
       simp only [Act.put, List.setIfInBounds_toArray, List.set_cons_zero, List.set_cons_succ])
  first
    | (refine calm_not rfl ?_
       simp only [Act.put, List.setIfInBounds_toArray, List.set_cons_zero, List.set_cons_succ])
    | (apply calm_pure rfl
       case h => (intro w1; go_simp; rfl)
       simp only [Act.put, List.setIfInBounds_toArray, List.set_cons_zero, List.set_cons_succ])
    | (apply calm_val rfl
       case h => (intro w1 hC; have cP := cell_of (keep hC (hp_drew hP)); clear hC; go_simp; rfl)
       simp only [Act.put, List.setIfInBounds_toArray, List.set_cons_zero, List.set_cons_succ])
  first
    | (refine calm_not rfl ?_
       simp only [Act.put, List.setIfInBounds_toArray, List.set_cons_zero, List.set_cons_succ])
    | (apply calm_pure rfl
       case h => (intro w1; go_simp; rfl)
       simp only [Act.put, List.setIfInBounds_toArray, List.set_cons_zero, List.set_cons_succ])
    | (apply calm_val rfl
       case h => (intro w1 hC; have cP := cell_of (keep hC (hp_drew hP)); clear hC; go_simp; rfl)
       simp only [Act.put, List.setIfInBounds_toArray, List.set_cons_zero, List.set_cons_succ])
  first
    | (refine calm_not rfl ?_
       simp only [Act.put, List.setIfInBounds_toArray, List.set_cons_zero, List.set_cons_succ])
    | (apply calm_pure rfl
       case h => (intro w1; go_simp; rfl)
       simp only [Act.put, List.setIfInBounds_toArray, List.set_cons_zero, List.set_cons_succ])
    | (apply calm_val rfl
       case h => (intro w1 hC; have cP := cell_of (keep hC (hp_drew hP)); clear hC; go_simp; rfl)
       simp only [Act.put, List.setIfInBounds_toArray, List.set_cons_zero, List.set_cons_succ])
  refine calm_call rfl (fun w1 hC => by first | (go_simp; done) | (go_simp; rfl)) (fun w1 hC => c7 w1) ?_
  simp only [Act.put, List.setIfInBounds_toArray, List.set_cons_zero, List.set_cons_succ]
  first
    | (refine calm_not rfl ?_
       simp only [Act.put, List.setIfInBounds_toArray, List.set_cons_zero, List.set_cons_succ])
    | (apply calm_pure rfl
       case h => (intro w1; go_simp; rfl)
       simp only [Act.put, List.setIfInBounds_toArray, List.set_cons_zero, List.set_cons_succ])
  first
    | (refine calm_not rfl ?_
       simp only [Act.put, List.setIfInBounds_toArray, List.set_cons_zero, List.set_cons_succ])
    | (apply calm_pure rfl
       case h => (intro w1; go_simp; rfl)
       simp only [Act.put, List.setIfInBounds_toArray, List.set_cons_zero, List.set_cons_succ])
  refine calm_call rfl (fun w1 hC => by first | (go_simp; done) | (go_simp; rfl)) (fun w1 hC => c8 w1) ?_
  simp only [Act.put, List.setIfInBounds_toArray, List.set_cons_zero, List.set_cons_succ]
  first
    | (refine calm_not rfl ?_
       simp only [Act.put, List.setIfInBounds_toArray, List.set_cons_zero, List.set_cons_succ])
    | (apply calm_pure rfl
       case h => (intro w1; go_simp; rfl)
       simp only [Act.put, List.setIfInBounds_toArray, List.set_cons_zero, List.set_cons_succ])
  first
    | (refine calm_not rfl ?_
       simp only [Act.put, List.setIfInBounds_toArray, List.set_cons_zero, List.set_cons_succ])
    | (apply calm_pure rfl
       case h => (intro w1; go_simp; rfl)
       simp only [Act.put, List.setIfInBounds_toArray, List.set_cons_zero, List.set_cons_succ])
  refine wpQuiet_nil ?_
  intro w5 hC
  replace hw_w0 := below_tr hw_w0 hC
  clear hC
  go_wp2_with fail
  go_ret
  exact ⟨rfl, hw_w0⟩
end Go.Proofs.Ytdhaedjmlddjcaa
