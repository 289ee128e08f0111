/- law8.Some: a point of the curve by a number. And what each point function comes to on points of the curve. No other conditions. -/
import Derived.Test.YtdhaedjmlddjcaaSpot
namespace Go.Num
open Go Go.RowKit Go.Crv
/-- The first point. -/
def baseP : Pt p := ⟨fe 15112221349535400772501151409588531511454012693041857206046113283949847762202, fe 46316835694926478169428394003475163141307993866256225615783033603165251855960⟩
/-- The point of two turns; a point of four. -/
def twoP : Pt p := ⟨fe 0, fe (p - 1)⟩
def fourP : Pt p := ⟨fe im, fe 0⟩
/-- What Some is. -/
def someP (k t : Nat) : Pt p := if t % 4 = 1 then gsum (gmul baseP k) twoP else if t % 4 = 2 then gsum (gmul baseP k) fourP else gmul baseP k
theorem fe_val_lt {a : Nat} (h : a < p) : (fe a).val = a := Nat.mod_eq_of_lt h
theorem num_word (k : Nat) (hk : k < 18446744073709551616) : num k = .agg #[.int .u64 k, .int .u64 0, .int .u64 0, .int .u64 0] := by
  have hW : W = 18446744073709551616 := rfl
  refine num_of ?_ ?_ ?_ ?_
  · unfold wd; rw [Nat.pow_zero, Nat.div_one, hW, Nat.mod_eq_of_lt hk]
  · unfold wd; rw [Nat.div_eq_of_lt (by rw [Nat.pow_one, hW]; exact hk)]; rfl
  · unfold wd; rw [Nat.div_eq_of_lt (Nat.lt_of_lt_of_le hk (by decide +kernel))]; rfl
  · unfold wd; rw [Nat.div_eq_of_lt (Nat.lt_of_lt_of_le hk (by decide +kernel))]; rfl
theorem word_W {k : Nat} (hk : k < 18446744073709551616) : k < W ^ 4 := Nat.lt_of_lt_of_le hk (by decide +kernel)
theorem val_lt (x : Fin p) : x.val < p := x.isLt
theorem val_W (x : Fin p) : x.val < W ^ 4 := lt_W x.isLt
theorem m1_val : fsub 0 1 = p - 1 := by decide +kernel
theorem im_lt : im < p := by decide +kernel
theorem pm1_lt : p - 1 < p := by decide +kernel
theorem two_on {n : Nat} [NeZero n] (d : Fin n) : On d 0 (-1) := by unfold On; grind
theorem four_on {n : Nat} [NeZero n] (d i : Fin n) (h : i * i = -1) : On d i 0 := by unfold On; grind
theorem twoP_on : onP twoP := by
  show On (fe dd) (fe 0) (fe (p - 1))
  rw [fe_zero, fe_m1]; exact two_on _
theorem fourP_on : onP fourP := by
  show On (fe dd) (fe im) (fe 0)
  rw [fe_zero]; exact four_on _ _ good.root
end Go.Num
namespace Go.Proofs.Ytdhaedjmlddjcaa
open Go.RowKit Go.Mono Go.Num Go.Crv
theorem im_root : rootN (fsub 0 1) = im := by decide +kernel
theorem im_ok : rootOk (fsub 0 1) = true := by decide +kernel
theorem baseP_eq : baseP = ⟨fe baseX, fe baseY⟩ := rfl
theorem base_valX : baseP.x.val = baseX := fe_val_lt base_lt.1
theorem base_valY : baseP.y.val = baseY := fe_val_lt base_lt.2
theorem base_onB : onB baseX baseY = true := by decide +kernel
theorem baseP_on : onP baseP := (onB_eq base_lt.1 base_lt.2).1 base_onB
theorem someP_on (k t : Nat) : onP (someP k t) := by
  unfold someP
  have h := gmul_on baseP_on k
  split
  · exact gsum_on h twoP_on
  · split
    · exact gsum_on h fourP_on
    · exact h
theorem onP_onB {P : Pt p} (h : onP P) : onB P.x.val P.y.val = true := by
  refine (onB_eq P.x.isLt P.y.isLt).2 ?_
  rw [fe_self, fe_self]; exact h

/-! ### Each function on points of the curve -/
theorem add_g (P Q : Pt p) (w : World) (hP : onP P) (hQ : onP Q) :
    Calls Try.prog 17 #[pt P.x.val P.y.val, pt Q.x.val Q.y.val] w fun e w' => e = .returned (pt (gsum P Q).x.val (gsum P Q).y.val) ∧ Below w.heap.size w w' := by
  have h := ((Rep.of P).add (Rep.of Q) hP hQ).out (addP_ok _ _).z
  have hc := padd_any P.x.val P.y.val Q.x.val Q.y.val w P.x.isLt P.y.isLt Q.x.isLt Q.y.isLt
  unfold sumX sumY at hc
  rw [h.1, h.2] at hc
  exact hc
theorem radd_g (P Q : Pt p) (w : World) (hP : onP P) (hQ : onP Q) :
    Calls Try.prog 18 #[pt P.x.val P.y.val, pt Q.x.val Q.y.val] w fun e w' => e = .returned (pt (gsum P Q).x.val (gsum P Q).y.val) ∧ Below w.heap.size w w' := by
  have h := ((Rep3.of P).plus (Rep3.of Q) hP hQ).out (plus3_ok _ _ _).z
  have hc := raddp_any P.x.val P.y.val Q.x.val Q.y.val w P.x.isLt P.y.isLt Q.x.isLt Q.y.isLt
  unfold raddX raddY rsum at hc
  rw [h.1, h.2] at hc
  exact hc
theorem zero_valX : (zero : Pt p).x.val = 0 := by decide +kernel
theorem zero_valY : (zero : Pt p).y.val = 1 := by decide +kernel
theorem mul_g (k : Nat) (P : Pt p) (w : World) (hk : k < W ^ 4) (hP : onP P) :
    Calls Try.prog 10 #[num k, pt P.x.val P.y.val] w fun e w' => e = .returned (pt (gmul P k).x.val (gmul P k).y.val) ∧ Below w.heap.size w w' := by
  have h0 : Rep (ofP 0 1) zero := by
    have := Rep.of zero
    rwa [zero_valX, zero_valY] at this
  have h := bits_fold (fun f O => Rep f O ∧ f.ok) (dbl (ofP P.x.val P.y.val)) (ofP 0 1) P hP ⟨h0, ofP_ok p_pos one_lt⟩ (fun a O b hO hr => by
    refine ⟨?_, dbl_ok _ _ _⟩
    cases b
    · exact hr.1.add hr.1 hO hO
    · exact (hr.1.add hr.1 hO hO).add (Rep.of P) (gsum_on hO hO) hP) k hk
  have h2 := h.1.out h.2.z
  have hc := pmul_any k P.x.val P.y.val w P.x.isLt P.y.isLt
  unfold mulX mulY mulF at hc
  rw [h2.1, h2.2] at hc
  exact hc
theorem rmul_g (k : Nat) (P : Pt p) (w : World) (hk : k < W ^ 4) (hP : onP P) :
    Calls Try.prog 19 #[num k, pt P.x.val P.y.val] w fun e w' => e = .returned (pt (gmul P k).x.val (gmul P k).y.val) ∧ Below w.heap.size w w' := by
  have h0 : Rep3 ⟨0, 1, 1⟩ zero := by
    have := Rep3.of zero
    rwa [zero_valX, zero_valY] at this
  have h := bits_fold (fun f O => Rep3 f O ∧ f.ok) (dbl3 ⟨P.x.val, P.y.val, 1⟩) ⟨0, 1, 1⟩ P hP ⟨h0, ok_free⟩ (fun a O b hO hr => by
    refine ⟨?_, dbl3_ok _ _ _⟩
    cases b
    · exact hr.1.plus hr.1 hO hO
    · exact (hr.1.plus hr.1 hO hO).plus (Rep3.of P) (gsum_on hO hO) hP) k hk
  have h2 := h.1.out h.2.z
  have hc := rmulp_any k P.x.val P.y.val w P.x.isLt P.y.isLt
  unfold rmulX rmulY mul3 at hc
  rw [h2.1, h2.2] at hc
  exact hc
theorem on_g (P : Pt p) (w : World) (hP : onP P) :
    Calls Try.prog 14 #[pt P.x.val P.y.val] w fun e w' => e = .returned (.bool true) ∧ Below w.heap.size w w' := by
  have hc := on_any P.x.val P.y.val w (val_W _) (val_W _)
  rw [onP_onB hP] at hc
  exact hc
set_option maxHeartbeats 1000000 in
theorem some_any (k t : Nat) (w : World) (hk : k < 18446744073709551616) (ht : t < 256) :
    Calls Try.prog 16 #[.int .u64 k, .int .u8 t] w fun e w' => e = .returned (pt (someP k t).x.val (someP k t).y.val) ∧ Below w.heap.size w w' := by
  have hb := fun w => rbase_any w
  have hm := fun w => rmul_g k baseP w (word_W hk) baseP_on
  rw [num_word k hk, base_valX, base_valY] at hm
  have hP := gmul_on baseP_on k
  have ha1 := fun w => radd_g (gmul baseP k) twoP w hP twoP_on
  have ha2 := fun w => radd_g (gmul baseP k) fourP w hP fourP_on
  have hs := fun w => rsub_any 0 1 w (by decide) (by decide)
  rw [num_zero, num_one] at hs
  have hr := fun w => rroot_any (fsub 0 1) w (lt_W (fsub_lt _ _))
  rw [im_root, im_ok] at hr
  have e1 : twoP.x.val = 0 := fe_val_lt p_pos
  have e2 : twoP.y.val = fsub 0 1 := (fe_val_lt pm1_lt).trans m1_val.symm
  have e3 : fourP.x.val = im := fe_val_lt im_lt
  have e4 : fourP.y.val = 0 := fe_val_lt p_pos
  rw [e1, e2] at ha1
  rw [e3, e4] at ha2
  clear e1 e2 e3 e4
  have hS : someP k t = (if t % 4 = 1 then gsum (gmul baseP k) twoP else if t % 4 = 2 then gsum (gmul baseP k) fourP else gmul baseP k) := rfl
  rw [hS]
  clear hS hP hk
  rw [show (pt 0 (fsub 0 1)) = .agg #[.int .u64 0, .int .u64 0, .int .u64 0, .int .u64 0, .int .u64 (wd (fsub 0 1) 0), .int .u64 (wd (fsub 0 1) 1), .int .u64 (wd (fsub 0 1) 2), .int .u64 (wd (fsub 0 1) 3)] by unfold pt; rw [wd_zero, wd_zero, wd_zero, wd_zero]; rfl] at ha1
  rw [show (pt im 0) = .agg #[.int .u64 (wd im 0), .int .u64 (wd im 1), .int .u64 (wd im 2), .int .u64 (wd im 3), .int .u64 0, .int .u64 0, .int .u64 0, .int .u64 0] by unfold pt; rw [wd_zero, wd_zero, wd_zero, wd_zero]; rfl] at ha2
  generalize fsub 0 1 = M1 at *
  generalize im = IM at *
  generalize gsum (gmul baseP k) twoP = S1 at *
  generalize gsum (gmul baseP k) fourP = S2 at *
  generalize gmul baseP k = S0 at *
  generalize baseX = BX at *
  generalize baseY = BY at *
  have ht4 : ((t : Nat) : Int) % 4 = ((t % 4 : Nat) : Int) := by omega
  have h4 : t % 4 < 4 := by omega
  have htm : ((t : Nat) : Int).tmod 4 = ((t % 4 : Nat) : Int) := by rw [Int.tmod_eq_emod_of_nonneg (by omega)]; omega
  generalize t % 4 = T at *
  obtain ⟨R, hR⟩ : ∃ R, (if T = 1 then S1 else if T = 2 then S2 else S0) = R := ⟨_, rfl⟩
  rw [hR]
  by_cases h1 : T = 1
  · have hf : S1 = R := by rw [← hR, if_pos h1]
    subst hf
    clear hR
    subst h1
    go_enter Try.func16, Try.ntmps16
    go_wp2_with fail
    obtain ⟨w0, hq_w0⟩ : ∃ w0, (w.alloc (.cells #[.int .u64 0, .int .u64 0, .int .u64 0, .int .u64 0, .int .u64 0, .int .u64 0, .int .u64 0, .int .u64 0] 28)) = w0 := ⟨_, rfl⟩
    have hR : w0.heap[w.heap.size]? = some (.cells #[.int .u64 0, .int .u64 0, .int .u64 0, .int .u64 0, .int .u64 0, .int .u64 0, .int .u64 0, .int .u64 0] 28) := by rw [← hq_w0]; exact hp_new _ (by simp)
    have hs_w0 : w0.heap.size = w.heap.size + 1 := by rw [← hq_w0]; simp
    have hw_w0 : Below w.heap.size w w0 := by rw [← hq_w0]; exact (Below.refl w.heap.size w).alloc (Nat.le_refl _) _
    rw [hq_w0]
    clear hq_w0
    clear hs_w0
    refine (hb _).mono ?_
    rintro e w1 ⟨rfl, hb1⟩
    replace hw_w0 := below_tr' hw_w0 hb1
    replace hR := keep hb1 hR
    clear hb1
    go_wp2_with fail
    refine (hm _).mono ?_
    rintro e w2 ⟨rfl, hb1⟩
    replace hw_w0 := below_tr' hw_w0 hb1
    replace hR := keep hb1 hR
    clear hb1
    have lR := Go.Mono.lt_of_some hR
    have lw := hw_w0.size
    have hRa := hp_old (.cells #[.int .u64 (wd (S0.x.val) 0), .int .u64 (wd (S0.x.val) 1), .int .u64 (wd (S0.x.val) 2), .int .u64 (wd (S0.x.val) 3), .int .u64 (wd (S0.y.val) 0), .int .u64 (wd (S0.y.val) 1), .int .u64 (wd (S0.y.val) 2), .int .u64 (wd (S0.y.val) 3)] 28) hR
    have hPa := hp_new (w := w2) (.cells #[.int .u64 (wd (S0.x.val) 0), .int .u64 (wd (S0.x.val) 1), .int .u64 (wd (S0.x.val) 2), .int .u64 (wd (S0.x.val) 3), .int .u64 (wd (S0.y.val) 0), .int .u64 (wd (S0.y.val) 1), .int .u64 (wd (S0.y.val) 2), .int .u64 (wd (S0.y.val) 3)] 28) rfl
    have hwa := hw_w0.alloc (by omega) (.cells #[.int .u64 (wd (S0.x.val) 0), .int .u64 (wd (S0.x.val) 1), .int .u64 (wd (S0.x.val) 2), .int .u64 (wd (S0.x.val) 3), .int .u64 (wd (S0.y.val) 0), .int .u64 (wd (S0.y.val) 1), .int .u64 (wd (S0.y.val) 2), .int .u64 (wd (S0.y.val) 3)] 28)
    clear hR hw_w0
    go_wp2_with fail
    generalize w2.alloc (.cells #[.int .u64 (wd (S0.x.val) 0), .int .u64 (wd (S0.x.val) 1), .int .u64 (wd (S0.x.val) 2), .int .u64 (wd (S0.x.val) 3), .int .u64 (wd (S0.y.val) 0), .int .u64 (wd (S0.y.val) 1), .int .u64 (wd (S0.y.val) 2), .int .u64 (wd (S0.y.val) 3)] 28) = w3 at *
    generalize w2.heap.size = bP at *
    refine wp_region_mono 6 6 [] (fun _ => default) (by kernel_rfl) (by kernel_rfl) (fun _ _ _ _ _ h => h) ?_
    simp only [List.take_succ_cons, List.take_zero, List.drop_succ_cons, List.drop_zero]
    repeat (first
      | (apply head_pure rfl rfl rfl
         case h => (intro w1; go_simp; rfl)
         simp only [Act.put, List.setIfInBounds_toArray, List.set_cons_zero, List.set_cons_succ])
      | (apply head_val rfl rfl rfl rfl
         case h => (intro w1 hC; have cP := cell_of (keep hC (hp_drew hPa)); clear hC; go_simp; rfl)
         simp only [Act.put, List.setIfInBounds_toArray, List.set_cons_zero, List.set_cons_succ]))
    refine head_call rfl rfl rfl rfl (fun w1 hC => by first | (go_simp; done) | (go_simp; rfl)) (fun w1 hC => hs w1) ?_
    simp only [Act.put, List.setIfInBounds_toArray, List.set_cons_zero, List.set_cons_succ]
    repeat
      (apply head_pure rfl rfl rfl
       case h => (intro w1; go_simp; rfl)
       simp only [Act.put, List.setIfInBounds_toArray, List.set_cons_zero, List.set_cons_succ])
    refine head_call rfl rfl rfl rfl (fun w1 hC => by first | (go_simp; done) | (go_simp; rfl)) (fun w1 hC => ha1 w1) ?_
    simp only [Act.put, List.setIfInBounds_toArray, List.set_cons_zero, List.set_cons_succ]
    refine head_nil ?_
    intro w4 hC _
    replace hwa := below_tr hwa hC
    replace hRa := keep hC (hp_drew hRa)
    replace hPa := keep hC (hp_drew hPa)
    clear hC
    refine wpList_storeBlk 8 rfl rfl rfl rfl hPa rfl rfl (by kernel_rfl) (by kernel_rfl) ?_
    intro w5 s5
    simp only [Act.put]
    replace hwa := s5.below hwa (by omega)
    replace hRa := s5.other hRa (by omega)
    replace hPa := s5.at_
    clear s5
    have cP := cell_of hPa
    go_wp2_with (first | (refine wpList_storeBlk 8 rfl rfl rfl rfl hRa rfl rfl (by kernel_rfl) (by kernel_rfl) ?_; intro w9 s9; simp only [Act.put]))
    exact bodyPost_ret (results_blk Try.results16 rfl s9.at_ Try.underlying28 rfl (by kernel_rfl)) rfl ⟨rfl, s9.below hwa (by omega)⟩
  · by_cases h2 : T = 2
    · have hf : S2 = R := by rw [← hR, if_neg h1, if_pos h2]
      subst hf
      clear hR h1
      subst h2
      go_enter Try.func16, Try.ntmps16
      go_wp2_with fail
      obtain ⟨w0, hq_w0⟩ : ∃ w0, (w.alloc (.cells #[.int .u64 0, .int .u64 0, .int .u64 0, .int .u64 0, .int .u64 0, .int .u64 0, .int .u64 0, .int .u64 0] 28)) = w0 := ⟨_, rfl⟩
      have hR : w0.heap[w.heap.size]? = some (.cells #[.int .u64 0, .int .u64 0, .int .u64 0, .int .u64 0, .int .u64 0, .int .u64 0, .int .u64 0, .int .u64 0] 28) := by rw [← hq_w0]; exact hp_new _ (by simp)
      have hs_w0 : w0.heap.size = w.heap.size + 1 := by rw [← hq_w0]; simp
      have hw_w0 : Below w.heap.size w w0 := by rw [← hq_w0]; exact (Below.refl w.heap.size w).alloc (Nat.le_refl _) _
      rw [hq_w0]
      clear hq_w0
      clear hs_w0
      refine (hb _).mono ?_
      rintro e w1 ⟨rfl, hb1⟩
      replace hw_w0 := below_tr' hw_w0 hb1
      replace hR := keep hb1 hR
      clear hb1
      go_wp2_with fail
      refine (hm _).mono ?_
      rintro e w2 ⟨rfl, hb1⟩
      replace hw_w0 := below_tr' hw_w0 hb1
      replace hR := keep hb1 hR
      clear hb1
      have lR := Go.Mono.lt_of_some hR
      have lw := hw_w0.size
      have hRa := hp_old (.cells #[.int .u64 (wd (S0.x.val) 0), .int .u64 (wd (S0.x.val) 1), .int .u64 (wd (S0.x.val) 2), .int .u64 (wd (S0.x.val) 3), .int .u64 (wd (S0.y.val) 0), .int .u64 (wd (S0.y.val) 1), .int .u64 (wd (S0.y.val) 2), .int .u64 (wd (S0.y.val) 3)] 28) hR
      have hPa := hp_new (w := w2) (.cells #[.int .u64 (wd (S0.x.val) 0), .int .u64 (wd (S0.x.val) 1), .int .u64 (wd (S0.x.val) 2), .int .u64 (wd (S0.x.val) 3), .int .u64 (wd (S0.y.val) 0), .int .u64 (wd (S0.y.val) 1), .int .u64 (wd (S0.y.val) 2), .int .u64 (wd (S0.y.val) 3)] 28) rfl
      have hwa := hw_w0.alloc (by omega) (.cells #[.int .u64 (wd (S0.x.val) 0), .int .u64 (wd (S0.x.val) 1), .int .u64 (wd (S0.x.val) 2), .int .u64 (wd (S0.x.val) 3), .int .u64 (wd (S0.y.val) 0), .int .u64 (wd (S0.y.val) 1), .int .u64 (wd (S0.y.val) 2), .int .u64 (wd (S0.y.val) 3)] 28)
      clear hR hw_w0
      go_wp2_with fail
      generalize w2.alloc (.cells #[.int .u64 (wd (S0.x.val) 0), .int .u64 (wd (S0.x.val) 1), .int .u64 (wd (S0.x.val) 2), .int .u64 (wd (S0.x.val) 3), .int .u64 (wd (S0.y.val) 0), .int .u64 (wd (S0.y.val) 1), .int .u64 (wd (S0.y.val) 2), .int .u64 (wd (S0.y.val) 3)] 28) = w3 at *
      generalize w2.heap.size = bP at *
      refine (hs _).mono ?_
      rintro e w4 ⟨rfl, hb1⟩
      replace hwa := below_tr' hwa hb1
      replace hRa := keep hb1 hRa
      replace hPa := keep hb1 hPa
      clear hb1
      go_wp2_with fail
      refine (hr _).mono ?_
      rintro e w5 ⟨rfl, hb1⟩
      replace hwa := below_tr' hwa hb1
      replace hRa := keep hb1 hRa
      replace hPa := keep hb1 hPa
      clear hb1
      have hsz := hwa.size
      have hPb := hp_old (.cells #[.int .u64 (wd IM 0), .int .u64 (wd IM 1), .int .u64 (wd IM 2), .int .u64 (wd IM 3), .bool true] 64) hPa
      have hRb := hp_old (.cells #[.int .u64 (wd IM 0), .int .u64 (wd IM 1), .int .u64 (wd IM 2), .int .u64 (wd IM 3), .bool true] 64) hRa
      have hGb := hp_new (w := w5) (.cells #[.int .u64 (wd IM 0), .int .u64 (wd IM 1), .int .u64 (wd IM 2), .int .u64 (wd IM 3), .bool true] 64) rfl
      have hwb := hwa.alloc hsz (.cells #[.int .u64 (wd IM 0), .int .u64 (wd IM 1), .int .u64 (wd IM 2), .int .u64 (wd IM 3), .bool true] 64)
      have cP := cell_of hPb
      have cG := cell_of hGb
      clear hPa hRa hwa
      have hPa := hPb
      have hRa := hRb
      have hwa := hwb
      clear hPb hRb hwb
      go_wp2_with fail
      refine (ha2 _).mono ?_
      rintro e w7 ⟨rfl, hb1⟩
      clear cP cG hGb
      replace hwa := below_tr' hwa hb1
      replace hRa := keep hb1 hRa
      replace hPa := keep hb1 hPa
      clear hb1
      rename_i hK_; refine hK_ _ _ ?_; clear hK_
      refine wpList_storeBlk 8 rfl rfl rfl rfl hPa rfl rfl (by kernel_rfl) (by kernel_rfl) ?_
      intro w8 s8
      simp only [Act.put]
      replace hwa := s8.below hwa (by omega)
      replace hRa := s8.other hRa (by omega)
      replace hPa := s8.at_
      clear s8
      have cP := cell_of hPa
      go_wp2_with (first | (refine wpList_storeBlk 8 rfl rfl rfl rfl hRa rfl rfl (by kernel_rfl) (by kernel_rfl) ?_; intro w9 s9; simp only [Act.put]))
      exact bodyPost_ret (results_blk Try.results16 rfl s9.at_ Try.underlying28 rfl (by kernel_rfl)) rfl ⟨rfl, s9.below hwa (by omega)⟩
    · have hf : S0 = R := by rw [← hR, if_neg h1, if_neg h2]
      subst hf
      clear hR
      have e1 : ((T : Int) == 1) = false := by simpa using (by omega : ¬ (T : Int) = 1)
      have e2 : ((T : Int) == 2) = false := by simpa using (by omega : ¬ (T : Int) = 2)
      clear h1 h2
      go_enter Try.func16, Try.ntmps16
      go_wp2_with fail
      obtain ⟨w0, hq_w0⟩ : ∃ w0, (w.alloc (.cells #[.int .u64 0, .int .u64 0, .int .u64 0, .int .u64 0, .int .u64 0, .int .u64 0, .int .u64 0, .int .u64 0] 28)) = w0 := ⟨_, rfl⟩
      have hR : w0.heap[w.heap.size]? = some (.cells #[.int .u64 0, .int .u64 0, .int .u64 0, .int .u64 0, .int .u64 0, .int .u64 0, .int .u64 0, .int .u64 0] 28) := by rw [← hq_w0]; exact hp_new _ (by simp)
      have hs_w0 : w0.heap.size = w.heap.size + 1 := by rw [← hq_w0]; simp
      have hw_w0 : Below w.heap.size w w0 := by rw [← hq_w0]; exact (Below.refl w.heap.size w).alloc (Nat.le_refl _) _
      rw [hq_w0]
      clear hq_w0
      clear hs_w0
      refine (hb _).mono ?_
      rintro e w1 ⟨rfl, hb1⟩
      replace hw_w0 := below_tr' hw_w0 hb1
      replace hR := keep hb1 hR
      clear hb1
      go_wp2_with fail
      refine (hm _).mono ?_
      rintro e w2 ⟨rfl, hb1⟩
      replace hw_w0 := below_tr' hw_w0 hb1
      replace hR := keep hb1 hR
      clear hb1
      have lR := Go.Mono.lt_of_some hR
      have lw := hw_w0.size
      have hRa := hp_old (.cells #[.int .u64 (wd (S0.x.val) 0), .int .u64 (wd (S0.x.val) 1), .int .u64 (wd (S0.x.val) 2), .int .u64 (wd (S0.x.val) 3), .int .u64 (wd (S0.y.val) 0), .int .u64 (wd (S0.y.val) 1), .int .u64 (wd (S0.y.val) 2), .int .u64 (wd (S0.y.val) 3)] 28) hR
      have hPa := hp_new (w := w2) (.cells #[.int .u64 (wd (S0.x.val) 0), .int .u64 (wd (S0.x.val) 1), .int .u64 (wd (S0.x.val) 2), .int .u64 (wd (S0.x.val) 3), .int .u64 (wd (S0.y.val) 0), .int .u64 (wd (S0.y.val) 1), .int .u64 (wd (S0.y.val) 2), .int .u64 (wd (S0.y.val) 3)] 28) rfl
      have hwa := hw_w0.alloc (by omega) (.cells #[.int .u64 (wd (S0.x.val) 0), .int .u64 (wd (S0.x.val) 1), .int .u64 (wd (S0.x.val) 2), .int .u64 (wd (S0.x.val) 3), .int .u64 (wd (S0.y.val) 0), .int .u64 (wd (S0.y.val) 1), .int .u64 (wd (S0.y.val) 2), .int .u64 (wd (S0.y.val) 3)] 28)
      clear hR hw_w0
      have cP := cell_of hPa
      go_wp2_with (first | (refine wpList_storeBlk 8 rfl rfl rfl rfl hRa rfl rfl (by kernel_rfl) (by kernel_rfl) ?_; intro w9 s9; simp only [Act.put]))
      exact bodyPost_ret (results_blk Try.results16 rfl s9.at_ Try.underlying28 rfl (by kernel_rfl)) rfl ⟨rfl, s9.below hwa (by omega)⟩
end Go.Proofs.Ytdhaedjmlddjcaa
