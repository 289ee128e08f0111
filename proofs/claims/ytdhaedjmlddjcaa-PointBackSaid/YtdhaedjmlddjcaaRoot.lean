/- field.Root. No conditions beyond the size. -/
import Derived.Test.YtdhaedjmlddjcaaFFrom
namespace Go.Num
open Go Go.RowKit
def e1 : Nat := 7237005577332262213973186563042994240829374041602535252466099000494570602494
def e2 : Nat := 14474011154664524427946373126085988481658748083205070504932198000989141204987
theorem num_e1 : num e1 = .agg #[.int .u64 18446744073709551614, .int .u64 18446744073709551615, .int .u64 18446744073709551615, .int .u64 1152921504606846975] :=
  num_of (by decide +kernel) (by decide +kernel) (by decide +kernel) (by decide +kernel)
theorem num_e2 : num e2 = .agg #[.int .u64 18446744073709551611, .int .u64 18446744073709551615, .int .u64 18446744073709551615, .int .u64 2305843009213693951] :=
  num_of (by decide +kernel) (by decide +kernel) (by decide +kernel) (by decide +kernel)
end Go.Num
namespace Go.Proofs.Ytdhaedjmlddjcaa
open Go.RowKit Go.Mono Go.Num
def rootA (a : Nat) : Nat := powF (fnorm a) e1
def rootB (a : Nat) : Nat := if eqN (fmul (rootA a) (rootA a)) (fnorm a) then rootA a else fmul (rootA a) (powF 2 e2)
def rootOk (a : Nat) : Bool := eqN (fmul (rootB a) (rootB a)) (fnorm a)
def rootN (a : Nat) : Nat := if rootOk a then (if rootB a % 2 = 1 then fsub 0 (rootB a) else rootB a) else 0
set_option maxHeartbeats 400000 in
theorem root_any (a : Nat) (w : World) (ha : a < W ^ 4) :
    Calls Try.prog 64 #[num a] w fun e w' => e = .returned (.tuple #[num (rootN a), .bool (rootOk a)]) ∧ Below w.heap.size w w' := by
  have hnm := fun w => norm_f a w ha
  have hAl : fnorm a < p := fnorm_lt a
  have hp1 := fun w => power_any (fnorm a) e1 w (lt_W hAl)
  have hp2 := fun w => power_any 2 e2 w (by decide)
  rw [num_e1] at hp1
  rw [num_e2, num_two] at hp2
  unfold rootN rootOk rootB rootA
  have hX0 : powF (fnorm a) e1 < p := powF_lt _ _
  have hT : powF 2 e2 < p := powF_lt _ _
  generalize powF (fnorm a) e1 = X0 at *
  generalize powF 2 e2 = T at *
  generalize fnorm a = A at *
  have hm0 := fun w => mul_f X0 X0 w (lt_W hX0) (lt_W hX0)
  have he0 := fun w => eq_num (fmul X0 X0) A w (lt_W (fmul_lt _ _)) (lt_W hAl)
  have hmT := fun w => mul_f X0 T w (lt_W hX0) (lt_W hT)
  have hXT := fmul_lt X0 T
  generalize fmul X0 X0 = S0 at *
  generalize fmul X0 T = XT at *
  generalize hE0 : eqN S0 A = E0 at *
  obtain ⟨X1, hX1⟩ : ∃ X1, (if E0 = true then X0 else XT) = X1 := ⟨_, rfl⟩
  have HX1 := Lib.hid hX1
  have hX1l : X1 < p := by rw [← hX1]; split <;> assumption
  rw [hX1]
  have hm1 := fun w => mul_f X1 X1 w (lt_W hX1l) (lt_W hX1l)
  have he1 := fun w => eq_num (fmul X1 X1) A w (lt_W (fmul_lt _ _)) (lt_W hAl)
  have hsb := fun w => sub_f 0 X1 w (by decide) (lt_W hX1l)
  rw [num_zero] at hsb
  generalize fmul X1 X1 = S1 at *
  generalize fsub 0 X1 = NX at *
  generalize hE1 : eqN S1 A = E1 at *
  obtain ⟨RN, hRN⟩ : ∃ RN, (if E1 = true then (if X1 % 2 = 1 then NX else X1) else 0) = RN := ⟨_, rfl⟩
  have HRN := Lib.hid hRN
  rw [hRN]
  clear hRN
  have hpar := and1 (wd X1 0) (wd_lt X1 0)
  rw [show wd X1 0 % 2 = X1 % 2 by unfold wd; rw [Nat.pow_zero, Nat.div_one]; exact Nat.mod_mod_of_dvd X1 (by decide)] at hpar
  have He0 := Lib.hid he0
  have He1 := Lib.hid he1
  clear ha hAl hX0 hT hX1 hX1l hE0 hE1 hXT he0 he1
  go_enter Try.func64, Try.ntmps64
  go_wp2_with fail
  obtain ⟨w0, hq_w0⟩ : ∃ w0, ((w.alloc (.cells #[.int .u64 (wd a 0), .int .u64 (wd a 1), .int .u64 (wd a 2), .int .u64 (wd a 3)] 26)).alloc (.cells #[.int .u64 0, .int .u64 0, .int .u64 0, .int .u64 0] 26)) = w0 := ⟨_, rfl⟩
  have hA : w0.heap[w.heap.size]? = some (.cells #[.int .u64 (wd a 0), .int .u64 (wd a 1), .int .u64 (wd a 2), .int .u64 (wd a 3)] 26) := by rw [← hq_w0]; exact hp_old _ (hp_new _ (by simp))
  have hR : w0.heap[w.heap.size + 1]? = some (.cells #[.int .u64 0, .int .u64 0, .int .u64 0, .int .u64 0] 26) := by rw [← hq_w0]; exact hp_new _ (by simp)
  have hs_w0 : w0.heap.size = w.heap.size + 2 := by rw [← hq_w0]; simp
  have hw_w0 : Below w.heap.size w w0 := by rw [← hq_w0]; exact ((Below.refl w.heap.size w).alloc (Nat.le_refl _) _).alloc (by simp) _
  rw [hq_w0]
  clear hq_w0
  refine (hnm _).mono ?_
  rintro e w1 ⟨rfl, hb⟩
  have hlR := Go.Mono.lt_of_some hR
  replace hw_w0 := below_tr' hw_w0 hb
  replace hA := keep hb hA
  replace hR := keep hb hR
  clear hb
  rename_i hK_; refine hK_ _ _ ?_; clear hK_
  refine wpList_storeBlk 4 rfl rfl rfl rfl hA rfl rfl (by kernel_rfl) (by kernel_rfl) ?_
  intro w2 s2
  simp only [Act.put]
  replace hw_w0 := s2.below hw_w0 (by omega)
  replace hR := s2.other hR (by omega)
  replace hA := s2.at_
  clear s2
  have cA := cell4 (n := A) hA
  have hlR2 := Go.Mono.lt_of_some hR
  go_wp2_with fail
  clear cA
  refine (hp1 _).mono ?_
  rintro e w4 ⟨rfl, hb⟩
  replace hw_w0 := below_tr' hw_w0 hb
  replace hA := keep hb hA
  replace hR := keep hb hR
  clear hb
  have hlA4 := Go.Mono.lt_of_some hA
  have hlR4 := Go.Mono.lt_of_some hR
  go_wp2_with fail
  obtain ⟨w5, hq_w5⟩ : ∃ w5, (w4.alloc (.cells #[.int .u64 (wd X0 0), .int .u64 (wd X0 1), .int .u64 (wd X0 2), .int .u64 (wd X0 3)] 26)) = w5 := ⟨_, rfl⟩
  have hX : w5.heap[w4.heap.size]? = some (.cells #[.int .u64 (wd X0 0), .int .u64 (wd X0 1), .int .u64 (wd X0 2), .int .u64 (wd X0 3)] 26) := by rw [← hq_w5]; exact hp_new _ (by simp)
  have hs_w5 : w5.heap.size = w4.heap.size + 1 := by rw [← hq_w5]; simp
  have hw_w5 : Below w4.heap.size w4 w5 := by rw [← hq_w5]; exact (Below.refl w4.heap.size w4).alloc (Nat.le_refl _) _
  rw [hq_w5]
  clear hq_w5
  replace hw_w0 := below_tr' hw_w0 hw_w5
  replace hA := keep hw_w5 hA
  replace hR := keep hw_w5 hR
  clear hw_w5
  have hlX : w.heap.size + 1 < w4.heap.size := by omega
  generalize w4.heap.size = bX at *
  refine wp_region_calm (by kernel_rfl) (by kernel_rfl) ?_
  repeat (first
    | (refine calm_not rfl ?_
       simp only [Act.put, List.setIfInBounds_toArray, List.set_cons_zero, List.set_cons_succ])
    | (apply calm_pure rfl
       case h => (intro w1; go_simp; rfl)
       simp only [Act.put, List.setIfInBounds_toArray, List.set_cons_zero, List.set_cons_succ])
    | (apply calm_val rfl
       case h => (intro w1 hC; have cA := cell4 (keep hC (hp_drew hA)); have cX := cell4 (keep hC (hp_drew hX)); clear hC; go_simp; rfl)
       simp only [Act.put, List.setIfInBounds_toArray, List.set_cons_zero, List.set_cons_succ]))
  refine calm_call rfl (fun w1 hC => by first | (go_simp; done) | (go_simp; rfl)) (fun w1 hC => hm0 w1) ?_
  simp only [Act.put, List.setIfInBounds_toArray, List.set_cons_zero, List.set_cons_succ]
  repeat (first
    | (refine calm_not rfl ?_
       simp only [Act.put, List.setIfInBounds_toArray, List.set_cons_zero, List.set_cons_succ])
    | (apply calm_pure rfl
       case h => (intro w1; go_simp; rfl)
       simp only [Act.put, List.setIfInBounds_toArray, List.set_cons_zero, List.set_cons_succ])
    | (apply calm_val rfl
       case h => (intro w1 hC; have cA := cell4 (keep hC (hp_drew hA)); have cX := cell4 (keep hC (hp_drew hX)); have c1 := He0.out w1; clear hC; go_simp; rfl)
       simp only [Act.put, List.setIfInBounds_toArray, List.set_cons_zero, List.set_cons_succ]))
  refine wpQuiet_nil ?_
  intro w6 hC
  replace hw_w0 := below_tr hw_w0 hC
  replace hA := keep hC (hp_drew hA)
  replace hR := keep hC (hp_drew hR)
  replace hX := keep hC (hp_drew hX)
  clear hC
  rename_i K1 hK1 K0 hK0
  have H : ∀ (u15 u16 u17 u18 u19 : Value) (w7 : World), w7.heap[w.heap.size]? = some (.cells #[.int .u64 (wd A 0), .int .u64 (wd A 1), .int .u64 (wd A 2), .int .u64 (wd A 3)] 26) → w7.heap[w.heap.size + 1]? = some (.cells #[.int .u64 0, .int .u64 0, .int .u64 0, .int .u64 0] 26) → w7.heap[bX]? = some (.cells #[.int .u64 (wd X1 0), .int .u64 (wd X1 1), .int .u64 (wd X1 2), .int .u64 (wd X1 3)] 26) → Below w.heap.size w w7 →
      K1 { tmps := #[num a, .pointer (some ⟨w.heap.size, 0, none⟩), .pointer (some ⟨w.heap.size + 1, 0, none⟩), .bool false, .pointer (some ⟨bX, 0, none⟩), .agg #[.int .u64 (wd a 0), .int .u64 (wd a 1), .int .u64 (wd a 2), .int .u64 (wd a 3)], num A, .agg #[.int .u64 (wd A 0), .int .u64 (wd A 1), .int .u64 (wd A 2), .int .u64 (wd A 3)], .agg #[.int .u64 18446744073709551614, .int .u64 18446744073709551615, .int .u64 18446744073709551615, .int .u64 1152921504606846975], num X0, .agg #[.int .u64 (wd X0 0), .int .u64 (wd X0 1), .int .u64 (wd X0 2), .int .u64 (wd X0 3)], .agg #[.int .u64 (wd X0 0), .int .u64 (wd X0 1), .int .u64 (wd X0 2), .int .u64 (wd X0 3)], num S0, .agg #[.int .u64 (wd A 0), .int .u64 (wd A 1), .int .u64 (wd A 2), .int .u64 (wd A 3)], .bool !E0, u15, u16, u17, u18, u19, undef, undef, undef, undef, undef, undef, undef, undef, undef, undef, undef, undef, undef, undef], defers := [] } w7 := by
    clear hA hR hX hw_w0
    intro u15 u16 u17 u18 u19 w7 hA hR hX hw_w0
    refine hK1 _ _ ?_
    go_wp2_with fail
    refine wp_region_calm (by kernel_rfl) (by kernel_rfl) ?_
    repeat (first
      | (refine calm_not rfl ?_
         simp only [Act.put, List.setIfInBounds_toArray, List.set_cons_zero, List.set_cons_succ])
      | (apply calm_pure rfl
         case h => (intro w1; go_simp; rfl)
         simp only [Act.put, List.setIfInBounds_toArray, List.set_cons_zero, List.set_cons_succ])
      | (apply calm_val rfl
         case h => (intro w1 hC; have cA := cell4 (keep hC (hp_drew hA)); have cX := cell4 (keep hC (hp_drew hX)); clear hC; go_simp; rfl)
         simp only [Act.put, List.setIfInBounds_toArray, List.set_cons_zero, List.set_cons_succ]))
    refine calm_call rfl (fun w1 hC => by first | (go_simp; done) | (go_simp; rfl)) (fun w1 hC => hm1 w1) ?_
    simp only [Act.put, List.setIfInBounds_toArray, List.set_cons_zero, List.set_cons_succ]
    repeat (first
      | (refine calm_not rfl ?_
         simp only [Act.put, List.setIfInBounds_toArray, List.set_cons_zero, List.set_cons_succ])
      | (apply calm_pure rfl
         case h => (intro w1; go_simp; rfl)
         simp only [Act.put, List.setIfInBounds_toArray, List.set_cons_zero, List.set_cons_succ])
      | (apply calm_val rfl
         case h => (intro w1 hC; have cA := cell4 (keep hC (hp_drew hA)); have cX := cell4 (keep hC (hp_drew hX)); have c1 := He1.out w1; clear hC; go_simp; rfl)
         simp only [Act.put, List.setIfInBounds_toArray, List.set_cons_zero, List.set_cons_succ]))
    refine wpQuiet_nil ?_
    intro w8 hC
    replace hw_w0 := below_tr hw_w0 hC
    replace hA := keep hC (hp_drew hA)
    replace hR := keep hC (hp_drew hR)
    replace hX := keep hC (hp_drew hX)
    clear hC
    cases E1 with
    | false =>
      have cR0 := cell_of hR 0
      have cR1 := cell_of hR 1
      have cR2 := cell_of hR 2
      have cR3 := cell_of hR 3
      have cRf := frozen_of hR
      have hB := st4_below (n := 0) hw_w0 (show w.heap.size ≤ w.heap.size + 1 by omega)
      have hc := cell4 (st4_at (n := 0) hR)
      clear hw_w0 hR hA hX
      go_wp2_with fail
      rw [st4_zero]
      exact bodyPost_ret (v := .tuple #[num 0, .bool false]) (by simp [results, Try.results64, go_sem, hc]) rfl ⟨by rw [← HRN.out]; rfl, hB⟩
    | true =>
      have cX0 : w8.cell? ⟨bX, 0, none⟩ = some (.int .u64 (wd X1 0)) := cell4 hX 0 (by decide)
      by_cases hodd : X1 % 2 = 1
      · rw [hodd] at hpar
        have hfin : NX = RN := by rw [← HRN.out, if_pos rfl, if_pos hodd]
        clear hodd HRN
        have cX := cell4 hX
        go_wp2_with fail
        clear cX cX0
        refine (hsb _).mono ?_
        rintro e w9 ⟨rfl, hb⟩
        replace hw_w0 := below_tr' hw_w0 hb
        replace hA := keep hb hA
        replace hR := keep hb hR
        replace hX := keep hb hX
        clear hb
        rename_i hK_; refine hK_ _ _ ?_; clear hK_
        refine wpList_storeBlk 4 rfl rfl rfl rfl hX rfl rfl (by kernel_rfl) (by kernel_rfl) ?_
        intro w10 s10
        simp only [Act.put]
        replace hw_w0 := s10.below hw_w0 (by omega)
        replace hA := s10.other hA (by omega)
        replace hR := s10.other hR (by omega)
        replace hX := s10.at_
        clear s10
        rw [hfin] at hX
        have cX := cell4 hX
        have cR0 := cell_of hR 0
        have cR1 := cell_of hR 1
        have cR2 := cell_of hR 2
        have cR3 := cell_of hR 3
        have cRf := frozen_of hR
        have hB := st4_below (n := RN) hw_w0 (show w.heap.size ≤ w.heap.size + 1 by omega)
        have hc := cell4 (st4_at (n := RN) hR)
        clear hw_w0 hR hA hX
        go_wp2_with fail
        simp only [st4_eq]
        exact bodyPost_ret (v := .tuple #[num RN, .bool true]) (by simp [results, Try.results64, go_sem, hc]) rfl ⟨rfl, hB⟩
      · have h0 : X1 % 2 = 0 := by omega
        rw [h0] at hpar
        have hfin : X1 = RN := by rw [← HRN.out, if_pos rfl, if_neg hodd]
        clear hodd h0 HRN
        rw [hfin] at hX
        have cX := cell4 hX
        have cX0' : w8.cell? ⟨bX, 0, none⟩ = some (.int .u64 (wd RN 0)) := cell4 hX 0 (by decide)
        rw [hfin] at hpar
        have cR0 := cell_of hR 0
        have cR1 := cell_of hR 1
        have cR2 := cell_of hR 2
        have cR3 := cell_of hR 3
        have cRf := frozen_of hR
        have hB := st4_below (n := RN) hw_w0 (show w.heap.size ≤ w.heap.size + 1 by omega)
        have hc := cell4 (st4_at (n := RN) hR)
        clear hw_w0 hR hA hX cX0
        go_wp2_with fail
        simp only [st4_eq]
        exact bodyPost_ret (v := .tuple #[num RN, .bool true]) (by simp [results, Try.results64, go_sem, hc]) rfl ⟨rfl, hB⟩
  clear hK1
  cases E0 with
  | true =>
    go_wp2_with fail
    have e : X0 = X1 := by simpa using HX1.out
    have hX' : w6.heap[bX]? = some (.cells #[.int .u64 (wd X1 0), .int .u64 (wd X1 1), .int .u64 (wd X1 2), .int .u64 (wd X1 3)] 26) := by rw [← e]; exact hX
    exact H _ _ _ _ _ w6 hA hR hX' hw_w0
  | false =>
    go_wp2_with fail
    have e : XT = X1 := by simpa using HX1.out
    refine wp_region_mono 5 5 [] (fun _ => default) (by kernel_rfl) (by kernel_rfl) (fun _ _ _ _ _ h => h) ?_
    simp only [List.take_succ_cons, List.take_zero, List.drop_succ_cons, List.drop_zero]
    repeat (first
      | (apply head_pure rfl rfl rfl
         case h => (intro w1; go_simp; rfl)
         simp only [Act.put, List.setIfInBounds_toArray, List.set_cons_zero, List.set_cons_succ])
      | (apply head_val rfl rfl rfl rfl
         case h => (intro w1 hC; have cX := cell4 (keep hC (hp_drew hX)); clear hC; go_simp; rfl)
         simp only [Act.put, List.setIfInBounds_toArray, List.set_cons_zero, List.set_cons_succ]))
    refine head_call rfl rfl rfl rfl (fun w1 hC => by first | (go_simp; done) | (go_simp; rfl)) (fun w1 hC => hp2 w1) ?_
    simp only [Act.put, List.setIfInBounds_toArray, List.set_cons_zero, List.set_cons_succ]
    refine head_call rfl rfl rfl rfl (fun w1 hC => by first | (go_simp; done) | (go_simp; rfl)) (fun w1 hC => hmT w1) ?_
    simp only [Act.put, List.setIfInBounds_toArray, List.set_cons_zero, List.set_cons_succ]
    refine head_nil ?_
    intro w7 hC _
    replace hw_w0 := below_tr hw_w0 hC
    replace hA := keep hC (hp_drew hA)
    replace hR := keep hC (hp_drew hR)
    replace hX := keep hC (hp_drew hX)
    clear hC
    refine wpList_storeBlk 4 rfl rfl rfl rfl hX rfl rfl (by kernel_rfl) (by kernel_rfl) ?_
    intro w8 s8
    simp only [Act.put]
    replace hw_w0 := s8.below hw_w0 (by omega)
    replace hA := s8.other hA (by omega)
    replace hR := s8.other hR (by omega)
    have hX' := s8.at_
    clear s8 hX
    rw [e] at hX'
    go_wp2_with fail
    exact H _ _ _ _ _ w8 hA hR hX' hw_w0
end Go.Proofs.Ytdhaedjmlddjcaa
