/- r6.Root. No conditions beyond the size. -/
import Derived.Test.YtdhaedjmlddjcaaRefE
import Derived.Test.YtdhaedjmlddjcaaRoot
namespace Go.Num
open Go Go.RowKit
/-- A number and whether it is one. -/
abbrev gotv (n : Nat) (b : Bool) : Value := .agg #[.int .u64 (wd n 0), .int .u64 (wd n 1), .int .u64 (wd n 2), .int .u64 (wd n 3), .bool b]
theorem gotv_zero (b : Bool) : gotv 0 b = .agg #[.int .u64 0, .int .u64 0, .int .u64 0, .int .u64 0, .bool b] := by simp [gotv, wd_zero]
theorem num_three : num 3 = .agg #[.int .u64 3, .int .u64 0, .int .u64 0, .int .u64 0] :=
  num_of (by decide +kernel) (by decide +kernel) (by decide +kernel) (by decide +kernel)
theorem p3_mod : (p + 3) % W ^ 4 = p + 3 := Nat.mod_eq_of_lt (by decide +kernel)
theorem p3_lt : p + 3 < W ^ 4 := by decide +kernel
theorem p1_lt : p - 1 < W ^ 4 := by decide +kernel
theorem e1_eq : (p + 3) / 2 ^ 3 = e1 := by decide +kernel
theorem e2_eq : (p - 1) / 2 ^ 2 = e2 := by decide +kernel
theorem sub_one : sub256 p 1 = p - 1 := sub256_ge p_lt (by decide)
end Go.Num
namespace Go.Proofs.Ytdhaedjmlddjcaa
open Go.RowKit Go.Mono Go.Num
set_option maxHeartbeats 1000000 in
theorem rroot_any (a : Nat) (w : World) (ha : a < W ^ 4) :
    Calls Try.prog 38 #[num a] w fun e w' => e = .returned (gotv (rootN a) (rootOk a)) ∧ Below w.heap.size w w' := by
  have hnm := fun w => rnorm_any a w ha
  have hAl : fnorm a < p := fnorm_lt a
  have ha3 := fun w => addnum_any p 3 w
  rw [p3_mod, num_three] at ha3
  generalize carN p 3 4 = C3 at *
  have hs3 := fun w => shift_any (p + 3) 3 w p3_lt (by decide)
  rw [e1_eq] at hs3
  have hsp := fun w => subnum_any p 1 w
  rw [sub_one, num_one] at hsp
  have hs2 := fun w => shift_any (p - 1) 2 w p1_lt (by decide)
  rw [e2_eq] at hs2
  have hp1 := fun w => rpow_any (fnorm a) e1 w (lt_W hAl)
  have hp2 := fun w => rpow_any 2 e2 w (by decide)
  rw [num_two] at hp2
  have hpr := fun w => rprime_any w
  unfold rootN rootOk rootB rootA
  have hX0 : powF (fnorm a) e1 < p := powF_lt _ _
  have hT : powF 2 e2 < p := powF_lt _ _
  generalize powF (fnorm a) e1 = X0 at *
  generalize powF 2 e2 = T at *
  generalize fnorm a = A at *
  have hm0 := fun w => rmulf_any X0 X0 w (lt_W hX0) (lt_W hX0)
  have he0 := fun w => eq_num (fmul X0 X0) A w (lt_W (fmul_lt _ _)) (lt_W hAl)
  have hmT := fun w => rmulf_any X0 T w (lt_W hX0) (lt_W hT)
  have hXT := fmul_lt X0 T
  generalize fmul X0 X0 = S0 at *
  generalize fmul X0 T = XT at *
  generalize hE0 : eqN S0 A = E0 at *
  obtain ⟨X1, hX1⟩ : ∃ X1, (if E0 = true then X0 else XT) = X1 := ⟨_, rfl⟩
  have HX1 := Lib.hid hX1
  have hX1l : X1 < p := by rw [← hX1]; split <;> assumption
  rw [hX1]
  have hm1 := fun w => rmulf_any X1 X1 w (lt_W hX1l) (lt_W hX1l)
  have he1 := fun w => eq_num (fmul X1 X1) A w (lt_W (fmul_lt _ _)) (lt_W hAl)
  have hsb := fun w => rsub_any 0 X1 w (by decide) (lt_W hX1l)
  rw [num_zero] at hsb
  generalize fmul X1 X1 = S1 at *
  generalize fsub 0 X1 = NX at *
  generalize hE1 : eqN S1 A = E1 at *
  obtain ⟨RN, hRN⟩ : ∃ RN, (if E1 = true then (if X1 % 2 = 1 then NX else X1) else 0) = RN := ⟨_, rfl⟩
  have HRN := Lib.hid hRN
  rw [hRN]
  clear hRN
  have hpar := and1 (wd X1 0) (wd_lt X1 0)
  rw [show wd X1 0 % 2 = X1 % 2 by unfold wd; rw [Nat.pow_zero, Nat.div_one]; exact Nat.mod_mod_of_dvd X1 (by decide)] at hpar
  have He0 := Lib.hid he0
  have He1 := Lib.hid he1
  clear ha hAl hX0 hT hX1 hX1l hE0 hE1 hXT he0 he1
  generalize p + 3 = P3 at *
  generalize p - 1 = P1 at *
  generalize e1 = EA at *
  generalize e2 = EB at *
  generalize p = P at *
  go_enter Try.func38, Try.ntmps38
  go_wp2_with fail
  obtain ⟨w0, hq_w0⟩ : ∃ w0, ((w.alloc (.cells #[.int .u64 (wd a 0), .int .u64 (wd a 1), .int .u64 (wd a 2), .int .u64 (wd a 3)] 26)).alloc (.cells #[.int .u64 0, .int .u64 0, .int .u64 0, .int .u64 0, .bool false] 64)) = w0 := ⟨_, rfl⟩
  have hA : w0.heap[w.heap.size]? = some (.cells #[.int .u64 (wd a 0), .int .u64 (wd a 1), .int .u64 (wd a 2), .int .u64 (wd a 3)] 26) := by rw [← hq_w0]; exact hp_old _ (hp_new _ (by simp))
  have hR : w0.heap[w.heap.size + 1]? = some (.cells #[.int .u64 0, .int .u64 0, .int .u64 0, .int .u64 0, .bool false] 64) := by rw [← hq_w0]; exact hp_new _ (by simp)
  have hs_w0 : w0.heap.size = w.heap.size + 2 := by rw [← hq_w0]; simp
  have hw_w0 : Below w.heap.size w w0 := by rw [← hq_w0]; exact ((Below.refl w.heap.size w).alloc (Nat.le_refl _) _).alloc (by simp) _
  rw [hq_w0]
  clear hq_w0
  clear hs_w0
  refine (hnm _).mono ?_
  rintro e w1 ⟨rfl, hb⟩
  replace hw_w0 := below_tr' hw_w0 hb
  replace hA := keep hb hA
  replace hR := keep hb hR
  clear hb
  rename_i hK_; refine hK_ _ _ ?_; clear hK_
  refine wpList_storeBlk 4 rfl rfl rfl rfl hA rfl rfl (by kernel_rfl) (by kernel_rfl) ?_
  intro w2 s2
  simp only [Act.put]
  replace hw_w0 := s2.below hw_w0 (by omega)
  replace hR := s2.other hR (by omega)
  replace hA := s2.at_
  clear s2
  go_wp2_with fail
  refine (hpr _).mono ?_
  rintro e w3 ⟨rfl, hb⟩
  replace hw_w0 := below_tr' hw_w0 hb
  replace hA := keep hb hA
  replace hR := keep hb hR
  clear hb
  go_wp2_with fail
  refine (ha3 _).mono ?_
  rintro e w4 ⟨rfl, hb⟩
  replace hw_w0 := below_tr' hw_w0 hb
  replace hA := keep hb hA
  replace hR := keep hb hR
  clear hb
  go_wp2_with fail
  have hlA4 := Go.Mono.lt_of_some hA
  have hlR4 := Go.Mono.lt_of_some hR
  obtain ⟨w5, hq_w5⟩ : ∃ w5, (w4.alloc (.cells #[.int .u64 (wd P3 0), .int .u64 (wd P3 1), .int .u64 (wd P3 2), .int .u64 (wd P3 3)] 26)) = w5 := ⟨_, rfl⟩
  have hM : w5.heap[w4.heap.size]? = some (.cells #[.int .u64 (wd P3 0), .int .u64 (wd P3 1), .int .u64 (wd P3 2), .int .u64 (wd P3 3)] 26) := by rw [← hq_w5]; exact hp_new _ (by simp)
  have hs_w5 : w5.heap.size = w4.heap.size + 1 := by rw [← hq_w5]; simp
  have hw_w5 : Below w4.heap.size w4 w5 := by rw [← hq_w5]; exact (Below.refl w4.heap.size w4).alloc (Nat.le_refl _) _
  rw [hq_w5]
  clear hq_w5
  replace hw_w0 := below_tr' hw_w0 hw_w5
  replace hA := keep hw_w5 hA
  replace hR := keep hw_w5 hR
  clear hw_w5
  clear hs_w5
  generalize w4.heap.size = bM at *
  have lz := Go.Mono.lt_of_some (hp_drew hM)
  refine wp_region_mono 4 5 [] (fun _ => .cells #[.int .u64 0, .int .u64 0, .int .u64 0, .int .u64 0] 26) (by kernel_rfl) (by kernel_rfl) (fun _ _ _ _ _ h => h) ?_
  simp only [List.take_succ_cons, List.take_zero, List.drop_succ_cons, List.drop_zero]
  repeat (first
    | (apply head_pure rfl rfl rfl
       case h => (intro w1; go_simp; rfl)
       simp only [Act.put, List.setIfInBounds_toArray, List.set_cons_zero, List.set_cons_succ])
    | (apply head_val rfl rfl rfl rfl
       case h => (intro w1 hC; have cA := cell4 (keep hC (hp_drew hA)); have cM := cell4 (keep hC (hp_drew hM)); clear hC; go_simp; rfl)
       simp only [Act.put, List.setIfInBounds_toArray, List.set_cons_zero, List.set_cons_succ]))
  refine head_call rfl rfl rfl rfl (fun w1 hC => by first | (go_simp; done) | (go_simp; rfl)) (fun w1 hC => hs3 w1) ?_
  simp only [Act.put, List.setIfInBounds_toArray, List.set_cons_zero, List.set_cons_succ]
  refine head_call rfl rfl rfl rfl (fun w1 hC => by first | (go_simp; done) | (go_simp; rfl)) (fun w1 hC => hp1 w1) ?_
  simp only [Act.put, List.setIfInBounds_toArray, List.set_cons_zero, List.set_cons_succ]
  refine head_alloc rfl rfl rfl rfl (fun w1 => by first | (go_simp; done) | (go_simp; rfl)) (fun bX hbX => ?_)
  simp only [Act.put, List.setIfInBounds_toArray, List.set_cons_zero, List.set_cons_succ]
  refine head_nil ?_
  intro w6 hC hown
  obtain ⟨hl_bX, hn_bX, hd_bX, -⟩ := hown
  replace hn_bX : w6.heap[bX]? = some (.cells #[.int .u64 0, .int .u64 0, .int .u64 0, .int .u64 0] 26) := hn_bX
  replace hl_bX : _ ≤ bX := hl_bX
  clear hd_bX
  have lX : bM < bX := by omega
  clear lz hl_bX hbX hM
  replace hw_w0 := below_tr hw_w0 hC
  replace hA := keep hC (hp_drew hA)
  replace hR := keep hC (hp_drew hR)
  clear hC
  refine wpList_storeBlk 4 rfl rfl rfl rfl hn_bX rfl rfl (by kernel_rfl) (by kernel_rfl) ?_
  intro w7 s7
  simp only [Act.put]
  replace hw_w0 := s7.below hw_w0 (by omega)
  replace hA := s7.other hA (by omega)
  replace hR := s7.other hR (by omega)
  have hX := s7.at_
  clear s7 hn_bX
  go_wp2_with fail
  refine wp_region_calm (by kernel_rfl) (by kernel_rfl) ?_
  repeat (first
    | (refine calm_not rfl ?_
       simp only [Act.put, List.setIfInBounds_toArray, List.set_cons_zero, List.set_cons_succ])
    | (apply calm_pure rfl
       case h => (intro w1; go_simp; rfl)
       simp only [Act.put, List.setIfInBounds_toArray, List.set_cons_zero, List.set_cons_succ])
    | (apply calm_val rfl
       case h => (intro w1 hC; have cA := cell4 (keep hC (hp_drew hA)); have cX := cell4 (keep hC (hp_drew hX)); clear hC; go_simp; rfl)
       simp only [Act.put, List.setIfInBounds_toArray, List.set_cons_zero, List.set_cons_succ]))
  refine calm_call rfl (fun w1 hC => by first | (go_simp; done) | (go_simp; rfl)) (fun w1 hC => hm0 w1) ?_
  simp only [Act.put, List.setIfInBounds_toArray, List.set_cons_zero, List.set_cons_succ]
  repeat (first
    | (refine calm_not rfl ?_
       simp only [Act.put, List.setIfInBounds_toArray, List.set_cons_zero, List.set_cons_succ])
    | (apply calm_pure rfl
       case h => (intro w1; go_simp; rfl)
       simp only [Act.put, List.setIfInBounds_toArray, List.set_cons_zero, List.set_cons_succ])
    | (apply calm_val rfl
       case h => (intro w1 hC; have cA := cell4 (keep hC (hp_drew hA)); have cX := cell4 (keep hC (hp_drew hX)); have c1 := He0.out w1; clear hC; go_simp; rfl)
       simp only [Act.put, List.setIfInBounds_toArray, List.set_cons_zero, List.set_cons_succ]))
  refine wpQuiet_nil ?_
  intro w8 hC
  replace hw_w0 := below_tr hw_w0 hC
  replace hA := keep hC (hp_drew hA)
  replace hR := keep hC (hp_drew hR)
  replace hX := keep hC (hp_drew hX)
  clear hC
  clear hnm ha3 hs3 hp1 hm0 He0
  cases E0 with
  | true =>
    have e : X1 = X0 := (by simpa using HX1.out : X0 = X1).symm
    subst e
    clear HX1 hp2 hmT hsp hs2 hpr
    go_wp2_with fail
    refine wp_region_calm (by kernel_rfl) (by kernel_rfl) ?_
    repeat (first
      | (refine calm_not rfl ?_
         simp only [Act.put, List.setIfInBounds_toArray, List.set_cons_zero, List.set_cons_succ])
      | (apply calm_pure rfl
         case h => (intro w1; go_simp; rfl)
         simp only [Act.put, List.setIfInBounds_toArray, List.set_cons_zero, List.set_cons_succ])
      | (apply calm_val rfl
         case h => (intro w1 hC; have cA := cell4 (keep hC (hp_drew hA)); have cX := cell4 (keep hC (hp_drew hX)); clear hC; go_simp; rfl)
         simp only [Act.put, List.setIfInBounds_toArray, List.set_cons_zero, List.set_cons_succ]))
    refine calm_call rfl (fun w1 hC => by first | (go_simp; done) | (go_simp; rfl)) (fun w1 hC => hm1 w1) ?_
    simp only [Act.put, List.setIfInBounds_toArray, List.set_cons_zero, List.set_cons_succ]
    repeat (first
      | (refine calm_not rfl ?_
         simp only [Act.put, List.setIfInBounds_toArray, List.set_cons_zero, List.set_cons_succ])
      | (apply calm_pure rfl
         case h => (intro w1; go_simp; rfl)
         simp only [Act.put, List.setIfInBounds_toArray, List.set_cons_zero, List.set_cons_succ])
      | (apply calm_val rfl
         case h => (intro w1 hC; have cA := cell4 (keep hC (hp_drew hA)); have cX := cell4 (keep hC (hp_drew hX)); have c1 := He1.out w1; clear hC; go_simp; rfl)
         simp only [Act.put, List.setIfInBounds_toArray, List.set_cons_zero, List.set_cons_succ]))
    refine wpQuiet_nil ?_
    intro w8 hC
    replace hw_w0 := below_tr hw_w0 hC
    replace hR := keep hC (hp_drew hR)
    replace hX := keep hC (hp_drew hX)
    clear hC
    clear hA
    cases E1 with
    | false =>
      have Hfin := Lib.hid (show gotv RN false = .agg #[.int .u64 0, .int .u64 0, .int .u64 0, .int .u64 0, .bool false] by rw [show RN = 0 by rw [← HRN.out]; rfl, gotv_zero])
      go_wp2_with (first | (refine wpList_storeBlk 5 rfl rfl rfl rfl hR rfl rfl (by kernel_rfl) (by kernel_rfl) ?_; intro w9 s9; simp only [Act.put]))
      exact bodyPost_ret (results_blk Try.results38 rfl s9.at_ Try.underlying64 rfl (by kernel_rfl)) rfl ⟨by rw [Hfin.out], s9.below hw_w0 (by omega)⟩
    | true =>
      have cX0 : w8.cell? ⟨bX, 0, none⟩ = some (.int .u64 (wd X1 0)) := cell4 hX 0 (by decide)
      by_cases hodd : X1 % 2 = 1
      · rw [hodd] at hpar
        have hfin : NX = RN := by rw [← HRN.out, if_pos rfl, if_pos hodd]
        clear hodd HRN
        have cX := cell4 hX
        go_wp2_with fail
        clear cX cX0
        refine (hsb _).mono ?_
        rintro e w9 ⟨rfl, hb⟩
        replace hw_w0 := below_tr' hw_w0 hb
        replace hR := keep hb hR
        replace hX := keep hb hX
        clear hb
        rename_i hK_; refine hK_ _ _ ?_; clear hK_
        refine wpList_storeBlk 4 rfl rfl rfl rfl hX rfl rfl (by kernel_rfl) (by kernel_rfl) ?_
        intro w10 s10
        simp only [Act.put]
        replace hw_w0 := s10.below hw_w0 (by omega)
        replace hR := s10.other hR (by omega)
        replace hX := s10.at_
        clear s10
        rw [hfin] at hX
        have cX := cell4 hX
        clear hX
        go_wp2_with (first | (refine wpList_storeBlk 5 rfl rfl rfl rfl hR rfl rfl (by kernel_rfl) (by kernel_rfl) ?_; intro w11 s11; simp only [Act.put]))
        exact bodyPost_ret (results_blk Try.results38 rfl s11.at_ Try.underlying64 rfl (by kernel_rfl)) rfl ⟨rfl, s11.below hw_w0 (by omega)⟩
      · have h0 : X1 % 2 = 0 := by omega
        rw [h0] at hpar
        have hfin : X1 = RN := by rw [← HRN.out, if_pos rfl, if_neg hodd]
        clear hodd h0 HRN
        rw [hfin] at hX hpar
        have cX := cell4 hX
        have cX0' : w8.cell? ⟨bX, 0, none⟩ = some (.int .u64 (wd RN 0)) := cell4 hX 0 (by decide)
        clear cX0 hX
        go_wp2_with (first | (refine wpList_storeBlk 5 rfl rfl rfl rfl hR rfl rfl (by kernel_rfl) (by kernel_rfl) ?_; intro w11 s11; simp only [Act.put]))
        exact bodyPost_ret (results_blk Try.results38 rfl s11.at_ Try.underlying64 rfl (by kernel_rfl)) rfl ⟨rfl, s11.below hw_w0 (by omega)⟩
  | false =>
    have e : X1 = XT := (by simpa using HX1.out : XT = X1).symm
    subst e
    clear HX1
    go_wp2_with fail
    refine wp_region_mono 8 8 [] (fun _ => default) (by kernel_rfl) (by kernel_rfl) (fun _ _ _ _ _ h => h) ?_
    simp only [List.take_succ_cons, List.take_zero, List.drop_succ_cons, List.drop_zero]
    repeat (first
      | (apply head_pure rfl rfl rfl
         case h => (intro w1; go_simp; rfl)
         simp only [Act.put, List.setIfInBounds_toArray, List.set_cons_zero, List.set_cons_succ])
      | (apply head_val rfl rfl rfl rfl
         case h => (intro w1 hC; have cX := cell4 (keep hC (hp_drew hX)); clear hC; go_simp; rfl)
         simp only [Act.put, List.setIfInBounds_toArray, List.set_cons_zero, List.set_cons_succ]))
    refine head_call rfl rfl rfl rfl (fun w1 hC => by first | (go_simp; done) | (go_simp; rfl)) (fun w1 hC => hpr w1) ?_
    simp only [Act.put, List.setIfInBounds_toArray, List.set_cons_zero, List.set_cons_succ]
    repeat
      (apply head_pure rfl rfl rfl
       case h => (intro w1; go_simp; rfl)
       simp only [Act.put, List.setIfInBounds_toArray, List.set_cons_zero, List.set_cons_succ])
    refine head_call rfl rfl rfl rfl (fun w1 hC => by first | (go_simp; done) | (go_simp; rfl)) (fun w1 hC => hsp w1) ?_
    simp only [Act.put, List.setIfInBounds_toArray, List.set_cons_zero, List.set_cons_succ]
    refine head_call rfl rfl rfl rfl (fun w1 hC => by first | (go_simp; done) | (go_simp; rfl)) (fun w1 hC => hs2 w1) ?_
    simp only [Act.put, List.setIfInBounds_toArray, List.set_cons_zero, List.set_cons_succ]
    refine head_call rfl rfl rfl rfl (fun w1 hC => by first | (go_simp; done) | (go_simp; rfl)) (fun w1 hC => hp2 w1) ?_
    simp only [Act.put, List.setIfInBounds_toArray, List.set_cons_zero, List.set_cons_succ]
    refine head_call rfl rfl rfl rfl (fun w1 hC => by first | (go_simp; done) | (go_simp; rfl)) (fun w1 hC => hmT w1) ?_
    simp only [Act.put, List.setIfInBounds_toArray, List.set_cons_zero, List.set_cons_succ]
    refine head_nil ?_
    intro w9 hC _
    replace hw_w0 := below_tr hw_w0 hC
    replace hA := keep hC (hp_drew hA)
    replace hR := keep hC (hp_drew hR)
    replace hX := keep hC (hp_drew hX)
    clear hC
    refine wpList_storeBlk 4 rfl rfl rfl rfl hX rfl rfl (by kernel_rfl) (by kernel_rfl) ?_
    intro w10 s10
    simp only [Act.put]
    replace hw_w0 := s10.below hw_w0 (by omega)
    replace hA := s10.other hA (by omega)
    replace hR := s10.other hR (by omega)
    replace hX := s10.at_
    clear s10
    clear hp2 hmT hsp hs2 hpr
    go_wp2_with fail
    refine wp_region_calm (by kernel_rfl) (by kernel_rfl) ?_
    repeat (first
      | (refine calm_not rfl ?_
         simp only [Act.put, List.setIfInBounds_toArray, List.set_cons_zero, List.set_cons_succ])
      | (apply calm_pure rfl
         case h => (intro w1; go_simp; rfl)
         simp only [Act.put, List.setIfInBounds_toArray, List.set_cons_zero, List.set_cons_succ])
      | (apply calm_val rfl
         case h => (intro w1 hC; have cA := cell4 (keep hC (hp_drew hA)); have cX := cell4 (keep hC (hp_drew hX)); clear hC; go_simp; rfl)
         simp only [Act.put, List.setIfInBounds_toArray, List.set_cons_zero, List.set_cons_succ]))
    refine calm_call rfl (fun w1 hC => by first | (go_simp; done) | (go_simp; rfl)) (fun w1 hC => hm1 w1) ?_
    simp only [Act.put, List.setIfInBounds_toArray, List.set_cons_zero, List.set_cons_succ]
    repeat (first
      | (refine calm_not rfl ?_
         simp only [Act.put, List.setIfInBounds_toArray, List.set_cons_zero, List.set_cons_succ])
      | (apply calm_pure rfl
         case h => (intro w1; go_simp; rfl)
         simp only [Act.put, List.setIfInBounds_toArray, List.set_cons_zero, List.set_cons_succ])
      | (apply calm_val rfl
         case h => (intro w1 hC; have cA := cell4 (keep hC (hp_drew hA)); have cX := cell4 (keep hC (hp_drew hX)); have c1 := He1.out w1; clear hC; go_simp; rfl)
         simp only [Act.put, List.setIfInBounds_toArray, List.set_cons_zero, List.set_cons_succ]))
    refine wpQuiet_nil ?_
    intro w8 hC
    replace hw_w0 := below_tr hw_w0 hC
    replace hR := keep hC (hp_drew hR)
    replace hX := keep hC (hp_drew hX)
    clear hC
    clear hA
    cases E1 with
    | false =>
      have Hfin := Lib.hid (show gotv RN false = .agg #[.int .u64 0, .int .u64 0, .int .u64 0, .int .u64 0, .bool false] by rw [show RN = 0 by rw [← HRN.out]; rfl, gotv_zero])
      go_wp2_with (first | (refine wpList_storeBlk 5 rfl rfl rfl rfl hR rfl rfl (by kernel_rfl) (by kernel_rfl) ?_; intro w9 s9; simp only [Act.put]))
      exact bodyPost_ret (results_blk Try.results38 rfl s9.at_ Try.underlying64 rfl (by kernel_rfl)) rfl ⟨by rw [Hfin.out], s9.below hw_w0 (by omega)⟩
    | true =>
      have cX0 : w8.cell? ⟨bX, 0, none⟩ = some (.int .u64 (wd X1 0)) := cell4 hX 0 (by decide)
      by_cases hodd : X1 % 2 = 1
      · rw [hodd] at hpar
        have hfin : NX = RN := by rw [← HRN.out, if_pos rfl, if_pos hodd]
        clear hodd HRN
        have cX := cell4 hX
        go_wp2_with fail
        clear cX cX0
        refine (hsb _).mono ?_
        rintro e w9 ⟨rfl, hb⟩
        replace hw_w0 := below_tr' hw_w0 hb
        replace hR := keep hb hR
        replace hX := keep hb hX
        clear hb
        rename_i hK_; refine hK_ _ _ ?_; clear hK_
        refine wpList_storeBlk 4 rfl rfl rfl rfl hX rfl rfl (by kernel_rfl) (by kernel_rfl) ?_
        intro w10 s10
        simp only [Act.put]
        replace hw_w0 := s10.below hw_w0 (by omega)
        replace hR := s10.other hR (by omega)
        replace hX := s10.at_
        clear s10
        rw [hfin] at hX
        have cX := cell4 hX
        clear hX
        go_wp2_with (first | (refine wpList_storeBlk 5 rfl rfl rfl rfl hR rfl rfl (by kernel_rfl) (by kernel_rfl) ?_; intro w11 s11; simp only [Act.put]))
        exact bodyPost_ret (results_blk Try.results38 rfl s11.at_ Try.underlying64 rfl (by kernel_rfl)) rfl ⟨rfl, s11.below hw_w0 (by omega)⟩
      · have h0 : X1 % 2 = 0 := by omega
        rw [h0] at hpar
        have hfin : X1 = RN := by rw [← HRN.out, if_pos rfl, if_neg hodd]
        clear hodd h0 HRN
        rw [hfin] at hX hpar
        have cX := cell4 hX
        have cX0' : w8.cell? ⟨bX, 0, none⟩ = some (.int .u64 (wd RN 0)) := cell4 hX 0 (by decide)
        clear cX0 hX
        go_wp2_with (first | (refine wpList_storeBlk 5 rfl rfl rfl rfl hR rfl rfl (by kernel_rfl) (by kernel_rfl) ?_; intro w11 s11; simp only [Act.put]))
        exact bodyPost_ret (results_blk Try.results38 rfl s11.at_ Try.underlying64 rfl (by kernel_rfl)) rfl ⟨rfl, s11.below hw_w0 (by omega)⟩
end Go.Proofs.Ytdhaedjmlddjcaa
