/- law8.PointGroups: whatever the numbers, it returns true. No conditions beyond the sizes. -/
import Derived.Test.YtdhaedjmlddjcaaSome
import Derived.Test.YtdhaedjmlddjcaaAll
namespace Go.Num
open Go Go.RowKit Go.Crv
theorem two_two_gen {n : Nat} [NeZero n] {d : Fin n} {iv : Fin n → Fin n} {i : Fin n} (G : Crv.Good d iv i) : add d iv ⟨0, -1⟩ ⟨0, -1⟩ = (zero : Pt n) := by
  have h : (⟨0, -1⟩ : Pt n).on d := two_on d
  refine (G.add_of h h ?_ ?_).symm
  · show (0 : Fin n) * (1 + d * (0 * 0 * (-1 * -1))) = 0 * -1 + 0 * -1
    grind
  · show (1 : Fin n) * (1 - d * (0 * 0 * (-1 * -1))) = -1 * -1 + 0 * 0
    grind
theorem two_two : gsum twoP twoP = zero := by
  have h : twoP = ⟨0, -1⟩ := by
    unfold twoP
    rw [fe_zero, fe_m1]
  rw [h]
  exact two_two_gen good
theorem twice {P : Pt p} (hP : onP P) : gmul P 2 = gsum P P := by
  show add (fe dd) inv (add (fe dd) inv zero P) P = add (fe dd) inv P P
  rw [good.zero_add hP]
theorem pt0_lit (y : Nat) : pt 0 y = .agg #[.int .u64 0, .int .u64 0, .int .u64 0, .int .u64 0, .int .u64 (wd y 0), .int .u64 (wd y 1), .int .u64 (wd y 2), .int .u64 (wd y 3)] := by
  unfold pt
  rw [wd_zero, wd_zero, wd_zero, wd_zero]; rfl
end Go.Num
namespace Go.Proofs.Ytdhaedjmlddjcaa
open Go.RowKit Go.Mono Go.Num Go.Crv
set_option maxHeartbeats 4000000 in
theorem groups_any (a b c m n : Nat) (w : World) (ha : a < 18446744073709551616) (hb : b < 18446744073709551616) (hc : c < 18446744073709551616) (hm : m < 4294967296) (hn : n < 4294967296) :
    Calls Try.prog 6 #[.int .u64 a, .int .u64 b, .int .u64 c, .int .u32 m, .int .u32 n] w fun e w' => e = .returned (.bool true) ∧ Below w.heap.size w w' := by
  have hP := someP_on a (a % 256)
  have hQ := someP_on b (b % 256)
  have hR := someP_on c (c % 256)
  have h1 := fun w => some_any a (a % 256) w ha (by omega)
  have h2 := fun w => some_any b (b % 256) w hb (by omega)
  have h3 := fun w => some_any c (c % 256) w hc (by omega)
  have t1 : IntKind.u8.wrap (a : Int) = ((a % 256 : Nat) : Int) := by rw [IntKind.wrap_u8]; omega
  have t2 : IntKind.u8.wrap (b : Int) = ((b % 256 : Nat) : Int) := by rw [IntKind.wrap_u8]; omega
  have t3 : IntKind.u8.wrap (c : Int) = ((c % 256 : Nat) : Int) := by rw [IntKind.wrap_u8]; omega
  generalize someP a (a % 256) = P at *
  generalize someP b (b % 256) = Q at *
  generalize someP c (c % 256) = R at *
  generalize a % 256 = ta at *
  generalize b % 256 = tb at *
  generalize c % 256 = tc at *
  have hX := gmul_on hP m
  have hY := gmul_on hP n
  have hPQ := gsum_on hP hQ
  have hQR := gsum_on hQ hR
  have c1 := fun w => mul_g m P w (word_W (by omega)) hP
  rw [num_word m (by omega)] at c1
  have c2 := fun w => mul_g n P w (word_W (by omega)) hP
  rw [num_word n (by omega)] at c2
  have c3 := fun w => add_g (gmul P m) (gmul P n) w hX hY
  rw [show gsum (gmul P m) (gmul P n) = gmul P (m + n) from (good.nmul_add hP m n).symm] at c3
  have c4 := fun w => mul_g (m + n) P w (word_W (by omega)) hP
  rw [num_word (m + n) (by omega)] at c4
  have c5 := fun w => add_g P Q w hP hQ
  have c6 := fun w => add_g (gsum P Q) R w hPQ hR
  rw [show gsum (gsum P Q) R = gsum P (gsum Q R) from good.assoc hP hQ hR] at c6
  have c7 := fun w => add_g Q R w hQ hR
  have c8 := fun w => add_g P (gsum Q R) w hP hQR
  have c9 := fun w => mul_g 2 Q w (by decide) hQ
  rw [num_two, twice hQ] at c9
  have c10 := fun w => add_g Q Q w hQ hQ
  have o1 := fun w => on_g twoP w twoP_on
  have c11 := fun w => add_g twoP twoP w twoP_on twoP_on
  rw [two_two, zero_valX, zero_valY] at c11
  have e1 : twoP.x.val = 0 := fe_val_lt p_pos
  have e2 : twoP.y.val = fsub 0 1 := (fe_val_lt pm1_lt).trans m1_val.symm
  rw [e1, e2] at o1 c11
  rw [pt0_lit] at o1 c11
  clear e1 e2
  have cs := fun w => rsub_any 0 1 w (by decide) (by decide)
  rw [num_zero, num_one] at cs
  have z1 := fun w => zero_any w
  have aw := fun w => awake_any w
  have q1 := fun w => eq_pt_self (gmul P (m + n)).x.val (gmul P (m + n)).y.val w (val_W _) (val_W _)
  have q2 := fun w => eq_pt_self (gsum P (gsum Q R)).x.val (gsum P (gsum Q R)).y.val w (val_W _) (val_W _)
  have q3 := fun w => eq_pt_self (gsum Q Q).x.val (gsum Q Q).y.val w (val_W _) (val_W _)
  have q4 := fun w => eq_pt_self 0 1 w (by decide) (by decide)
  clear hP hQ hR hX hY hPQ hQR ha hb hc
  obtain ⟨U, V, hU, hV⟩ : ∃ U V : Nat, U = 0 ∧ V = 1 := ⟨0, 1, rfl, rfl⟩
  rw [← hU, ← hV] at q4
  rw [show pt 0 1 = pt U V by rw [hU, hV]] at c11 z1
  clear hU hV
  generalize fsub 0 1 = M1 at *
  generalize (gmul P (m + n)).x.val = SX at *
  generalize (gmul P (m + n)).y.val = SY at *
  generalize (gmul P m).x.val = XX at *
  generalize (gmul P m).y.val = XY at *
  generalize (gmul P n).x.val = YX at *
  generalize (gmul P n).y.val = YY at *
  generalize (gsum P (gsum Q R)).x.val = AX at *
  generalize (gsum P (gsum Q R)).y.val = AY at *
  generalize (gsum P Q).x.val = BX at *
  generalize (gsum P Q).y.val = BY at *
  generalize (gsum Q R).x.val = CX at *
  generalize (gsum Q R).y.val = CY at *
  generalize (gsum Q Q).x.val = DX at *
  generalize (gsum Q Q).y.val = DY at *
  generalize P.x.val = PX at *
  generalize P.y.val = PY at *
  generalize Q.x.val = QX at *
  generalize Q.y.val = QY at *
  generalize R.x.val = RX at *
  generalize R.y.val = RY at *
  have Q1 := Lib.hid q1
  have Q2 := Lib.hid q2
  have Q3 := Lib.hid q3
  have Q4 := Lib.hid q4
  have k1 : IntKind.u64.wrap (m : Int) = (m : Int) := by rw [IntKind.wrap_u64]; omega
  have k2 : IntKind.u64.wrap (n : Int) = (n : Int) := by rw [IntKind.wrap_u64]; omega
  have k3 : IntKind.u64.wrap ((m : Int) + (n : Int)) = ((m + n : Nat) : Int) := by rw [IntKind.wrap_u64]; omega
  obtain ⟨K, hK⟩ : ∃ K, m + n = K := ⟨_, rfl⟩
  rw [hK] at k3 c4
  clear q1 q2 q3 q4 hm hn hK
  go_enter Try.func6, Try.ntmps6
  go_wp2_with fail
  refine (h1 _).mono ?_
  rintro e w1 ⟨rfl, hw_w0⟩
  go_wp2_with fail
  refine (h2 _).mono ?_
  rintro e w2 ⟨rfl, hb⟩
  replace hw_w0 := below_tr' hw_w0 hb
  clear hb
  go_wp2_with fail
  refine (h3 _).mono ?_
  rintro e w3 ⟨rfl, hb⟩
  replace hw_w0 := below_tr' hw_w0 hb
  clear hb
  go_wp2_with fail
  obtain ⟨w4, hq_w4⟩ : ∃ w4, (((w3.alloc (.cells #[.int .u64 (wd PX 0), .int .u64 (wd PX 1), .int .u64 (wd PX 2), .int .u64 (wd PX 3), .int .u64 (wd PY 0), .int .u64 (wd PY 1), .int .u64 (wd PY 2), .int .u64 (wd PY 3)] 28)).alloc (.cells #[.int .u64 (wd QX 0), .int .u64 (wd QX 1), .int .u64 (wd QX 2), .int .u64 (wd QX 3), .int .u64 (wd QY 0), .int .u64 (wd QY 1), .int .u64 (wd QY 2), .int .u64 (wd QY 3)] 28)).alloc (.cells #[.int .u64 (wd RX 0), .int .u64 (wd RX 1), .int .u64 (wd RX 2), .int .u64 (wd RX 3), .int .u64 (wd RY 0), .int .u64 (wd RY 1), .int .u64 (wd RY 2), .int .u64 (wd RY 3)] 28)) = w4 := ⟨_, rfl⟩
  have hP : w4.heap[w3.heap.size]? = some (.cells #[.int .u64 (wd PX 0), .int .u64 (wd PX 1), .int .u64 (wd PX 2), .int .u64 (wd PX 3), .int .u64 (wd PY 0), .int .u64 (wd PY 1), .int .u64 (wd PY 2), .int .u64 (wd PY 3)] 28) := by rw [← hq_w4]; exact hp_old _ (hp_old _ (hp_new _ (by simp)))
  have hQ : w4.heap[w3.heap.size + 1]? = some (.cells #[.int .u64 (wd QX 0), .int .u64 (wd QX 1), .int .u64 (wd QX 2), .int .u64 (wd QX 3), .int .u64 (wd QY 0), .int .u64 (wd QY 1), .int .u64 (wd QY 2), .int .u64 (wd QY 3)] 28) := by rw [← hq_w4]; exact hp_old _ (hp_new _ (by simp))
  have hR : w4.heap[w3.heap.size + 1 + 1]? = some (.cells #[.int .u64 (wd RX 0), .int .u64 (wd RX 1), .int .u64 (wd RX 2), .int .u64 (wd RX 3), .int .u64 (wd RY 0), .int .u64 (wd RY 1), .int .u64 (wd RY 2), .int .u64 (wd RY 3)] 28) := by rw [← hq_w4]; exact hp_new _ (by simp)
  have hs_w4 : w4.heap.size = w3.heap.size + 3 := by rw [← hq_w4]; simp
  have hw_w4 : Below w3.heap.size w3 w4 := by rw [← hq_w4]; exact (((Below.refl w3.heap.size w3).alloc (Nat.le_refl _) _).alloc (by simp) _).alloc (by simp; omega) _
  rw [hq_w4]
  clear hq_w4
  replace hw_w4 := below_tr' hw_w0 hw_w4
  clear hw_w0 hs_w4 h1 h2 h3
  generalize w3.heap.size = bP at *
  have lz := Go.Mono.lt_of_some (hp_drew hR)
  refine wp_region_mono 10 12 [] (fun _ => .cells #[.int .u64 0, .int .u64 0, .int .u64 0, .int .u64 0, .int .u64 0, .int .u64 0, .int .u64 0, .int .u64 0] 28) (by kernel_rfl) (by kernel_rfl) (fun _ _ _ _ _ h => h) ?_
  simp only [List.take_succ_cons, List.take_zero, List.drop_succ_cons, List.drop_zero]
  repeat
    (apply head_pure rfl rfl rfl
     case h => (intro w1; go_simp; rfl)
     simp only [Act.put, List.setIfInBounds_toArray, List.set_cons_zero, List.set_cons_succ])
  repeat (first
    | (apply head_pure rfl rfl rfl
       case h => (intro w1; go_simp; rfl)
       simp only [Act.put, List.setIfInBounds_toArray, List.set_cons_zero, List.set_cons_succ])
    | (apply head_val rfl rfl rfl rfl
       case h => (intro w1 hC; have cP := cell_of (keep hC (hp_drew hP)); clear hC; go_simp; rfl)
       simp only [Act.put, List.setIfInBounds_toArray, List.set_cons_zero, List.set_cons_succ]))
  refine head_call rfl rfl rfl rfl (fun w1 hC => by first | (go_simp; done) | (go_simp; rfl)) (fun w1 hC => c1 w1) ?_
  simp only [Act.put, List.setIfInBounds_toArray, List.set_cons_zero, List.set_cons_succ]
  repeat
    (apply head_pure rfl rfl rfl
     case h => (intro w1; go_simp; rfl)
     simp only [Act.put, List.setIfInBounds_toArray, List.set_cons_zero, List.set_cons_succ])
  repeat (first
    | (apply head_pure rfl rfl rfl
       case h => (intro w1; go_simp; rfl)
       simp only [Act.put, List.setIfInBounds_toArray, List.set_cons_zero, List.set_cons_succ])
    | (apply head_val rfl rfl rfl rfl
       case h => (intro w1 hC; have cP := cell_of (keep hC (hp_drew hP)); clear hC; go_simp; rfl)
       simp only [Act.put, List.setIfInBounds_toArray, List.set_cons_zero, List.set_cons_succ]))
  refine head_call rfl rfl rfl rfl (fun w1 hC => by first | (go_simp; done) | (go_simp; rfl)) (fun w1 hC => c2 w1) ?_
  simp only [Act.put, List.setIfInBounds_toArray, List.set_cons_zero, List.set_cons_succ]
  refine head_alloc rfl rfl rfl rfl (fun w1 => by first | (go_simp; done) | (go_simp; rfl)) (fun bX hbX => ?_)
  simp only [Act.put, List.setIfInBounds_toArray, List.set_cons_zero, List.set_cons_succ]
  refine head_alloc rfl rfl rfl rfl (fun w1 => by first | (go_simp; done) | (go_simp; rfl)) (fun bY hbY => ?_)
  simp only [Act.put, List.setIfInBounds_toArray, List.set_cons_zero, List.set_cons_succ]
  refine head_nil ?_
  intro w5 hC hown
  obtain ⟨hl_bX, hn_bX, hd_bX, hl_bY, hn_bY, hd_bY, -⟩ := hown
  replace hn_bX : w5.heap[bX]? = some (.cells #[.int .u64 0, .int .u64 0, .int .u64 0, .int .u64 0, .int .u64 0, .int .u64 0, .int .u64 0, .int .u64 0] 28) := hn_bX
  replace hl_bX : _ ≤ bX := hl_bX
  have ne_bY_bX : bY ≠ bX := hd_bX _ (List.Mem.head _)
  replace hn_bY : w5.heap[bY]? = some (.cells #[.int .u64 0, .int .u64 0, .int .u64 0, .int .u64 0, .int .u64 0, .int .u64 0, .int .u64 0, .int .u64 0] 28) := hn_bY
  replace hl_bY : _ ≤ bY := hl_bY
  clear hd_bX hd_bY
  have lX : bP + 1 + 1 < bX := by clear k1 k2 k3 t1 t2 t3; omega
  have lY : bP + 1 + 1 < bY := by clear k1 k2 k3 t1 t2 t3; omega
  clear lz hbX hbY
  have lwX : w.heap.size ≤ bX := by have := hw_w4.size; have hd : w4.drew.heap.size = w4.heap.size := rfl; clear k1 k2 k3 t1 t2 t3; omega
  have lwY : w.heap.size ≤ bY := by have := hw_w4.size; have hd : w4.drew.heap.size = w4.heap.size := rfl; clear k1 k2 k3 t1 t2 t3; omega
  clear hl_bX hl_bY
  replace hw_w4 := below_tr hw_w4 hC
  replace hP := keep hC (hp_drew hP)
  replace hQ := keep hC (hp_drew hQ)
  replace hR := keep hC (hp_drew hR)
  clear hC
  refine wpList_storeBlk 8 rfl rfl rfl rfl hn_bX rfl rfl (by kernel_rfl) (by kernel_rfl) ?_
  intro w6 s6
  simp only [Act.put]
  replace hw_w4 := s6.below hw_w4 (by omega)
  replace hP := s6.other hP (by omega)
  replace hQ := s6.other hQ (by omega)
  replace hR := s6.other hR (by omega)
  replace hn_bY := s6.other hn_bY (by omega)
  replace hn_bX := s6.at_
  clear s6
  refine wpList_storeBlk 8 rfl rfl rfl rfl hn_bY rfl rfl (by kernel_rfl) (by kernel_rfl) ?_
  intro w7 s7
  simp only [Act.put]
  replace hw_w4 := s7.below hw_w4 (by omega)
  replace hP := s7.other hP (by omega)
  replace hQ := s7.other hQ (by omega)
  replace hR := s7.other hR (by omega)
  replace hn_bX := s7.other hn_bX (by omega)
  replace hn_bY := s7.at_
  clear s7
  clear c1 c2
  go_wp2_with fail
  refine (cs _).mono ?_
  rintro e w8 ⟨rfl, hb⟩
  replace hw_w4 := below_tr' hw_w4 hb
  replace hP := keep hb hP
  replace hQ := keep hb hQ
  replace hR := keep hb hR
  replace hn_bX := keep hb hn_bX
  replace hn_bY := keep hb hn_bY
  clear hb
  go_upto_region 4 with (fail)
  obtain ⟨w9, hq_w9⟩ : ∃ w9, (w8.alloc (.cells #[.int .u64 0, .int .u64 0, .int .u64 0, .int .u64 0, .int .u64 (wd M1 0), .int .u64 (wd M1 1), .int .u64 (wd M1 2), .int .u64 (wd M1 3)] 28)) = w9 := ⟨_, rfl⟩
  have hT : w9.heap[w8.heap.size]? = some (.cells #[.int .u64 0, .int .u64 0, .int .u64 0, .int .u64 0, .int .u64 (wd M1 0), .int .u64 (wd M1 1), .int .u64 (wd M1 2), .int .u64 (wd M1 3)] 28) := by rw [← hq_w9]; exact hp_new _ (by simp)
  have hs_w9 : w9.heap.size = w8.heap.size + 1 := by rw [← hq_w9]; simp
  have hw_w9 : Below w8.heap.size w8 w9 := by rw [← hq_w9]; exact (Below.refl w8.heap.size w8).alloc (Nat.le_refl _) _
  rw [hq_w9]
  clear hq_w9
  replace hw_w4 := below_tr' hw_w4 hw_w9
  replace hP := keep hw_w9 hP
  replace hQ := keep hw_w9 hQ
  replace hR := keep hw_w9 hR
  replace hn_bX := keep hw_w9 hn_bX
  replace hn_bY := keep hw_w9 hn_bY
  clear hw_w9
  clear hs_w9
  generalize w8.heap.size = bT at *
  refine wp_region_calm (by kernel_rfl) (by kernel_rfl) ?_
  first
    | (refine calm_not rfl ?_
       simp only [Act.put, List.setIfInBounds_toArray, List.set_cons_zero, List.set_cons_succ])
    | (apply calm_pure rfl
       case h => (intro w1; go_simp; rfl)
       simp only [Act.put, List.setIfInBounds_toArray, List.set_cons_zero, List.set_cons_succ])
    | (apply calm_val rfl
       case h => (intro w1 hC; have cX := cell_of (keep hC (hp_drew hn_bX)); have cY := cell_of (keep hC (hp_drew hn_bY)); clear hC; go_simp; rfl)
       simp only [Act.put, List.setIfInBounds_toArray, List.set_cons_zero, List.set_cons_succ])
  first
    | (refine calm_not rfl ?_
       simp only [Act.put, List.setIfInBounds_toArray, List.set_cons_zero, List.set_cons_succ])
    | (apply calm_pure rfl
       case h => (intro w1; go_simp; rfl)
       simp only [Act.put, List.setIfInBounds_toArray, List.set_cons_zero, List.set_cons_succ])
    | (apply calm_val rfl
       case h => (intro w1 hC; have cX := cell_of (keep hC (hp_drew hn_bX)); have cY := cell_of (keep hC (hp_drew hn_bY)); clear hC; go_simp; rfl)
       simp only [Act.put, List.setIfInBounds_toArray, List.set_cons_zero, List.set_cons_succ])
  refine calm_call rfl (fun w1 hC => by first | (go_simp; done) | (go_simp; rfl)) (fun w1 hC => c3 w1) ?_
  simp only [Act.put, List.setIfInBounds_toArray, List.set_cons_zero, List.set_cons_succ]
  first
    | (refine calm_not rfl ?_
       simp only [Act.put, List.setIfInBounds_toArray, List.set_cons_zero, List.set_cons_succ])
    | (apply calm_pure rfl
       case h => (intro w1; go_simp; rfl)
       simp only [Act.put, List.setIfInBounds_toArray, List.set_cons_zero, List.set_cons_succ])
    | (apply calm_val rfl
       case h => (intro w1 hC; have cP := cell_of (keep hC (hp_drew hP)); clear hC; go_simp; rfl)
       simp only [Act.put, List.setIfInBounds_toArray, List.set_cons_zero, List.set_cons_succ])
  first
    | (refine calm_not rfl ?_
       simp only [Act.put, List.setIfInBounds_toArray, List.set_cons_zero, List.set_cons_succ])
    | (apply calm_pure rfl
       case h => (intro w1; go_simp; rfl)
       simp only [Act.put, List.setIfInBounds_toArray, List.set_cons_zero, List.set_cons_succ])
    | (apply calm_val rfl
       case h => (intro w1 hC; have cP := cell_of (keep hC (hp_drew hP)); clear hC; go_simp; rfl)
       simp only [Act.put, List.setIfInBounds_toArray, List.set_cons_zero, List.set_cons_succ])
  first
    | (refine calm_not rfl ?_
       simp only [Act.put, List.setIfInBounds_toArray, List.set_cons_zero, List.set_cons_succ])
    | (apply calm_pure rfl
       case h => (intro w1; go_simp; rfl)
       simp only [Act.put, List.setIfInBounds_toArray, List.set_cons_zero, List.set_cons_succ])
    | (apply calm_val rfl
       case h => (intro w1 hC; have cP := cell_of (keep hC (hp_drew hP)); clear hC; go_simp; rfl)
       simp only [Act.put, List.setIfInBounds_toArray, List.set_cons_zero, List.set_cons_succ])
  first
    | (refine calm_not rfl ?_
       simp only [Act.put, List.setIfInBounds_toArray, List.set_cons_zero, List.set_cons_succ])
    | (apply calm_pure rfl
       case h => (intro w1; go_simp; rfl)
       simp only [Act.put, List.setIfInBounds_toArray, List.set_cons_zero, List.set_cons_succ])
    | (apply calm_val rfl
       case h => (intro w1 hC; have cP := cell_of (keep hC (hp_drew hP)); clear hC; go_simp; rfl)
       simp only [Act.put, List.setIfInBounds_toArray, List.set_cons_zero, List.set_cons_succ])
  first
    | (refine calm_not rfl ?_
       simp only [Act.put, List.setIfInBounds_toArray, List.set_cons_zero, List.set_cons_succ])
    | (apply calm_pure rfl
       case h => (intro w1; go_simp; rfl)
       simp only [Act.put, List.setIfInBounds_toArray, List.set_cons_zero, List.set_cons_succ])
    | (apply calm_val rfl
       case h => (intro w1 hC; have cP := cell_of (keep hC (hp_drew hP)); clear hC; go_simp; rfl)
       simp only [Act.put, List.setIfInBounds_toArray, List.set_cons_zero, List.set_cons_succ])
  first
    | (refine calm_not rfl ?_
       simp only [Act.put, List.setIfInBounds_toArray, List.set_cons_zero, List.set_cons_succ])
    | (apply calm_pure rfl
       case h => (intro w1; go_simp; rfl)
       simp only [Act.put, List.setIfInBounds_toArray, List.set_cons_zero, List.set_cons_succ])
    | (apply calm_val rfl
       case h => (intro w1 hC; have cP := cell_of (keep hC (hp_drew hP)); clear hC; go_simp; rfl)
       simp only [Act.put, List.setIfInBounds_toArray, List.set_cons_zero, List.set_cons_succ])
  first
    | (refine calm_not rfl ?_
       simp only [Act.put, List.setIfInBounds_toArray, List.set_cons_zero, List.set_cons_succ])
    | (apply calm_pure rfl
       case h => (intro w1; go_simp; rfl)
       simp only [Act.put, List.setIfInBounds_toArray, List.set_cons_zero, List.set_cons_succ])
    | (apply calm_val rfl
       case h => (intro w1 hC; have cP := cell_of (keep hC (hp_drew hP)); clear hC; go_simp; rfl)
       simp only [Act.put, List.setIfInBounds_toArray, List.set_cons_zero, List.set_cons_succ])
  refine calm_call rfl (fun w1 hC => by first | (go_simp; done) | (go_simp; rfl)) (fun w1 hC => c4 w1) ?_
  simp only [Act.put, List.setIfInBounds_toArray, List.set_cons_zero, List.set_cons_succ]
  refine calm_val (v := .bool true) rfl (fun w1 hC => exec_eqP _ _ true w1 (Q1.out w1) _ _ _ rfl rfl rfl) ?_
  simp only [Act.put, List.setIfInBounds_toArray, List.set_cons_zero, List.set_cons_succ]
  first
    | (refine calm_not rfl ?_
       simp only [Act.put, List.setIfInBounds_toArray, List.set_cons_zero, List.set_cons_succ])
    | (apply calm_pure rfl
       case h => (intro w1; go_simp; rfl)
       simp only [Act.put, List.setIfInBounds_toArray, List.set_cons_zero, List.set_cons_succ])
    | (apply calm_val rfl
       case h => (intro w1 hC; have cP := cell_of (keep hC (hp_drew hP)); have cQ := cell_of (keep hC (hp_drew hQ)); clear hC; go_simp; rfl)
       simp only [Act.put, List.setIfInBounds_toArray, List.set_cons_zero, List.set_cons_succ])
  first
    | (refine calm_not rfl ?_
       simp only [Act.put, List.setIfInBounds_toArray, List.set_cons_zero, List.set_cons_succ])
    | (apply calm_pure rfl
       case h => (intro w1; go_simp; rfl)
       simp only [Act.put, List.setIfInBounds_toArray, List.set_cons_zero, List.set_cons_succ])
    | (apply calm_val rfl
       case h => (intro w1 hC; have cP := cell_of (keep hC (hp_drew hP)); have cQ := cell_of (keep hC (hp_drew hQ)); clear hC; go_simp; rfl)
       simp only [Act.put, List.setIfInBounds_toArray, List.set_cons_zero, List.set_cons_succ])
  first
    | (refine calm_not rfl ?_
       simp only [Act.put, List.setIfInBounds_toArray, List.set_cons_zero, List.set_cons_succ])
    | (apply calm_pure rfl
       case h => (intro w1; go_simp; rfl)
       simp only [Act.put, List.setIfInBounds_toArray, List.set_cons_zero, List.set_cons_succ])
    | (apply calm_val rfl
       case h => (intro w1 hC; have cP := cell_of (keep hC (hp_drew hP)); have cQ := cell_of (keep hC (hp_drew hQ)); clear hC; go_simp; rfl)
       simp only [Act.put, List.setIfInBounds_toArray, List.set_cons_zero, List.set_cons_succ])
  refine calm_call rfl (fun w1 hC => by first | (go_simp; done) | (go_simp; rfl)) (fun w1 hC => c5 w1) ?_
  simp only [Act.put, List.setIfInBounds_toArray, List.set_cons_zero, List.set_cons_succ]
  first
    | (refine calm_not rfl ?_
       simp only [Act.put, List.setIfInBounds_toArray, List.set_cons_zero, List.set_cons_succ])
    | (apply calm_pure rfl
       case h => (intro w1; go_simp; rfl)
       simp only [Act.put, List.setIfInBounds_toArray, List.set_cons_zero, List.set_cons_succ])
    | (apply calm_val rfl
       case h => (intro w1 hC; have cR := cell_of (keep hC (hp_drew hR)); clear hC; go_simp; rfl)
       simp only [Act.put, List.setIfInBounds_toArray, List.set_cons_zero, List.set_cons_succ])
  refine calm_call rfl (fun w1 hC => by first | (go_simp; done) | (go_simp; rfl)) (fun w1 hC => c6 w1) ?_
  simp only [Act.put, List.setIfInBounds_toArray, List.set_cons_zero, List.set_cons_succ]
  first
    | (refine calm_not rfl ?_
       simp only [Act.put, List.setIfInBounds_toArray, List.set_cons_zero, List.set_cons_succ])
    | (apply calm_pure rfl
       case h => (intro w1; go_simp; rfl)
       simp only [Act.put, List.setIfInBounds_toArray, List.set_cons_zero, List.set_cons_succ])
    | (apply calm_val rfl
       case h => (intro w1 hC; have cP := cell_of (keep hC (hp_drew hP)); have cQ := cell_of (keep hC (hp_drew hQ)); have cR := cell_of (keep hC (hp_drew hR)); clear hC; go_simp; rfl)
       simp only [Act.put, List.setIfInBounds_toArray, List.set_cons_zero, List.set_cons_succ])
  first
    | (refine calm_not rfl ?_
       simp only [Act.put, List.setIfInBounds_toArray, List.set_cons_zero, List.set_cons_succ])
    | (apply calm_pure rfl
       case h => (intro w1; go_simp; rfl)
       simp only [Act.put, List.setIfInBounds_toArray, List.set_cons_zero, List.set_cons_succ])
    | (apply calm_val rfl
       case h => (intro w1 hC; have cP := cell_of (keep hC (hp_drew hP)); have cQ := cell_of (keep hC (hp_drew hQ)); have cR := cell_of (keep hC (hp_drew hR)); clear hC; go_simp; rfl)
       simp only [Act.put, List.setIfInBounds_toArray, List.set_cons_zero, List.set_cons_succ])
  first
    | (refine calm_not rfl ?_
       simp only [Act.put, List.setIfInBounds_toArray, List.set_cons_zero, List.set_cons_succ])
    | (apply calm_pure rfl
       case h => (intro w1; go_simp; rfl)
       simp only [Act.put, List.setIfInBounds_toArray, List.set_cons_zero, List.set_cons_succ])
    | (apply calm_val rfl
       case h => (intro w1 hC; have cP := cell_of (keep hC (hp_drew hP)); have cQ := cell_of (keep hC (hp_drew hQ)); have cR := cell_of (keep hC (hp_drew hR)); clear hC; go_simp; rfl)
       simp only [Act.put, List.setIfInBounds_toArray, List.set_cons_zero, List.set_cons_succ])
  refine calm_call rfl (fun w1 hC => by first | (go_simp; done) | (go_simp; rfl)) (fun w1 hC => c7 w1) ?_
  simp only [Act.put, List.setIfInBounds_toArray, List.set_cons_zero, List.set_cons_succ]
  refine calm_call rfl (fun w1 hC => by first | (go_simp; done) | (go_simp; rfl)) (fun w1 hC => c8 w1) ?_
  simp only [Act.put, List.setIfInBounds_toArray, List.set_cons_zero, List.set_cons_succ]
  refine calm_val (v := .bool true) rfl (fun w1 hC => exec_eqP _ _ true w1 (Q2.out w1) _ _ _ rfl rfl rfl) ?_
  simp only [Act.put, List.setIfInBounds_toArray, List.set_cons_zero, List.set_cons_succ]
  first
    | (refine calm_not rfl ?_
       simp only [Act.put, List.setIfInBounds_toArray, List.set_cons_zero, List.set_cons_succ])
    | (apply calm_pure rfl
       case h => (intro w1; go_simp; rfl)
       simp only [Act.put, List.setIfInBounds_toArray, List.set_cons_zero, List.set_cons_succ])
    | (apply calm_val rfl
       case h => (intro w1 hC; have cT := cell_of (keep hC (hp_drew hT)); clear hC; go_simp; rfl)
       simp only [Act.put, List.setIfInBounds_toArray, List.set_cons_zero, List.set_cons_succ])
  first
    | (refine calm_not rfl ?_
       simp only [Act.put, List.setIfInBounds_toArray, List.set_cons_zero, List.set_cons_succ])
    | (apply calm_pure rfl
       case h => (intro w1; go_simp; rfl)
       simp only [Act.put, List.setIfInBounds_toArray, List.set_cons_zero, List.set_cons_succ])
    | (apply calm_val rfl
       case h => (intro w1 hC; have cT := cell_of (keep hC (hp_drew hT)); clear hC; go_simp; rfl)
       simp only [Act.put, List.setIfInBounds_toArray, List.set_cons_zero, List.set_cons_succ])
  first
    | (refine calm_not rfl ?_
       simp only [Act.put, List.setIfInBounds_toArray, List.set_cons_zero, List.set_cons_succ])
    | (apply calm_pure rfl
       case h => (intro w1; go_simp; rfl)
       simp only [Act.put, List.setIfInBounds_toArray, List.set_cons_zero, List.set_cons_succ])
    | (apply calm_val rfl
       case h => (intro w1 hC; have cT := cell_of (keep hC (hp_drew hT)); clear hC; go_simp; rfl)
       simp only [Act.put, List.setIfInBounds_toArray, List.set_cons_zero, List.set_cons_succ])
  refine calm_call rfl (fun w1 hC => by first | (go_simp; done) | (go_simp; rfl)) (fun w1 hC => o1 w1) ?_
  simp only [Act.put, List.setIfInBounds_toArray, List.set_cons_zero, List.set_cons_succ]
  first
    | (refine calm_not rfl ?_
       simp only [Act.put, List.setIfInBounds_toArray, List.set_cons_zero, List.set_cons_succ])
    | (apply calm_pure rfl
       case h => (intro w1; go_simp; rfl)
       simp only [Act.put, List.setIfInBounds_toArray, List.set_cons_zero, List.set_cons_succ])
    | (apply calm_val rfl
       case h => (intro w1 hC; have cT := cell_of (keep hC (hp_drew hT)); clear hC; go_simp; rfl)
       simp only [Act.put, List.setIfInBounds_toArray, List.set_cons_zero, List.set_cons_succ])
  first
    | (refine calm_not rfl ?_
       simp only [Act.put, List.setIfInBounds_toArray, List.set_cons_zero, List.set_cons_succ])
    | (apply calm_pure rfl
       case h => (intro w1; go_simp; rfl)
       simp only [Act.put, List.setIfInBounds_toArray, List.set_cons_zero, List.set_cons_succ])
    | (apply calm_val rfl
       case h => (intro w1 hC; have cT := cell_of (keep hC (hp_drew hT)); clear hC; go_simp; rfl)
       simp only [Act.put, List.setIfInBounds_toArray, List.set_cons_zero, List.set_cons_succ])
  first
    | (refine calm_not rfl ?_
       simp only [Act.put, List.setIfInBounds_toArray, List.set_cons_zero, List.set_cons_succ])
    | (apply calm_pure rfl
       case h => (intro w1; go_simp; rfl)
       simp only [Act.put, List.setIfInBounds_toArray, List.set_cons_zero, List.set_cons_succ])
    | (apply calm_val rfl
       case h => (intro w1 hC; have cT := cell_of (keep hC (hp_drew hT)); clear hC; go_simp; rfl)
       simp only [Act.put, List.setIfInBounds_toArray, List.set_cons_zero, List.set_cons_succ])
  first
    | (refine calm_not rfl ?_
       simp only [Act.put, List.setIfInBounds_toArray, List.set_cons_zero, List.set_cons_succ])
    | (apply calm_pure rfl
       case h => (intro w1; go_simp; rfl)
       simp only [Act.put, List.setIfInBounds_toArray, List.set_cons_zero, List.set_cons_succ])
    | (apply calm_val rfl
       case h => (intro w1 hC; have cT := cell_of (keep hC (hp_drew hT)); clear hC; go_simp; rfl)
       simp only [Act.put, List.setIfInBounds_toArray, List.set_cons_zero, List.set_cons_succ])
  refine calm_call rfl (fun w1 hC => by first | (go_simp; done) | (go_simp; rfl)) (fun w1 hC => c11 w1) ?_
  simp only [Act.put, List.setIfInBounds_toArray, List.set_cons_zero, List.set_cons_succ]
  refine calm_call rfl (fun w1 hC => by first | (go_simp; done) | (go_simp; rfl)) (fun w1 hC => z1 w1) ?_
  simp only [Act.put, List.setIfInBounds_toArray, List.set_cons_zero, List.set_cons_succ]
  refine calm_val (v := .bool true) rfl (fun w1 hC => exec_eqP _ _ true w1 (Q4.out w1) _ _ _ rfl rfl rfl) ?_
  simp only [Act.put, List.setIfInBounds_toArray, List.set_cons_zero, List.set_cons_succ]
  first
    | (refine calm_not rfl ?_
       simp only [Act.put, List.setIfInBounds_toArray, List.set_cons_zero, List.set_cons_succ])
    | (apply calm_pure rfl
       case h => (intro w1; go_simp; rfl)
       simp only [Act.put, List.setIfInBounds_toArray, List.set_cons_zero, List.set_cons_succ])
    | (apply calm_val rfl
       case h => (intro w1 hC; have cQ := cell_of (keep hC (hp_drew hQ)); clear hC; go_simp; rfl)
       simp only [Act.put, List.setIfInBounds_toArray, List.set_cons_zero, List.set_cons_succ])
  first
    | (refine calm_not rfl ?_
       simp only [Act.put, List.setIfInBounds_toArray, List.set_cons_zero, List.set_cons_succ])
    | (apply calm_pure rfl
       case h => (intro w1; go_simp; rfl)
       simp only [Act.put, List.setIfInBounds_toArray, List.set_cons_zero, List.set_cons_succ])
    | (apply calm_val rfl
       case h => (intro w1 hC; have cQ := cell_of (keep hC (hp_drew hQ)); clear hC; go_simp; rfl)
       simp only [Act.put, List.setIfInBounds_toArray, List.set_cons_zero, List.set_cons_succ])
  first
    | (refine calm_not rfl ?_
       simp only [Act.put, List.setIfInBounds_toArray, List.set_cons_zero, List.set_cons_succ])
    | (apply calm_pure rfl
       case h => (intro w1; go_simp; rfl)
       simp only [Act.put, List.setIfInBounds_toArray, List.set_cons_zero, List.set_cons_succ])
    | (apply calm_val rfl
       case h => (intro w1 hC; have cQ := cell_of (keep hC (hp_drew hQ)); clear hC; go_simp; rfl)
       simp only [Act.put, List.setIfInBounds_toArray, List.set_cons_zero, List.set_cons_succ])
  first
    | (refine calm_not rfl ?_
       simp only [Act.put, List.setIfInBounds_toArray, List.set_cons_zero, List.set_cons_succ])
    | (apply calm_pure rfl
       case h => (intro w1; go_simp; rfl)
       simp only [Act.put, List.setIfInBounds_toArray, List.set_cons_zero, List.set_cons_succ])
    | (apply calm_val rfl
       case h => (intro w1 hC; have cQ := cell_of (keep hC (hp_drew hQ)); clear hC; go_simp; rfl)
       simp only [Act.put, List.setIfInBounds_toArray, List.set_cons_zero, List.set_cons_succ])
  refine calm_call rfl (fun w1 hC => by first | (go_simp; done) | (go_simp; rfl)) (fun w1 hC => c9 w1) ?_
  simp only [Act.put, List.setIfInBounds_toArray, List.set_cons_zero, List.set_cons_succ]
  first
    | (refine calm_not rfl ?_
       simp only [Act.put, List.setIfInBounds_toArray, List.set_cons_zero, List.set_cons_succ])
    | (apply calm_pure rfl
       case h => (intro w1; go_simp; rfl)
       simp only [Act.put, List.setIfInBounds_toArray, List.set_cons_zero, List.set_cons_succ])
    | (apply calm_val rfl
       case h => (intro w1 hC; have cQ := cell_of (keep hC (hp_drew hQ)); clear hC; go_simp; rfl)
       simp only [Act.put, List.setIfInBounds_toArray, List.set_cons_zero, List.set_cons_succ])
  first
    | (refine calm_not rfl ?_
       simp only [Act.put, List.setIfInBounds_toArray, List.set_cons_zero, List.set_cons_succ])
    | (apply calm_pure rfl
       case h => (intro w1; go_simp; rfl)
       simp only [Act.put, List.setIfInBounds_toArray, List.set_cons_zero, List.set_cons_succ])
    | (apply calm_val rfl
       case h => (intro w1 hC; have cQ := cell_of (keep hC (hp_drew hQ)); clear hC; go_simp; rfl)
       simp only [Act.put, List.setIfInBounds_toArray, List.set_cons_zero, List.set_cons_succ])
  refine calm_call rfl (fun w1 hC => by first | (go_simp; done) | (go_simp; rfl)) (fun w1 hC => c10 w1) ?_
  simp only [Act.put, List.setIfInBounds_toArray, List.set_cons_zero, List.set_cons_succ]
  refine calm_val (v := .bool true) rfl (fun w1 hC => exec_eqP _ _ true w1 (Q3.out w1) _ _ _ rfl rfl rfl) ?_
  simp only [Act.put, List.setIfInBounds_toArray, List.set_cons_zero, List.set_cons_succ]
  first
    | (refine calm_not rfl ?_
       simp only [Act.put, List.setIfInBounds_toArray, List.set_cons_zero, List.set_cons_succ])
    | (apply calm_pure rfl
       case h => (intro w1; go_simp; rfl)
       simp only [Act.put, List.setIfInBounds_toArray, List.set_cons_zero, List.set_cons_succ])
  first
    | (refine calm_not rfl ?_
       simp only [Act.put, List.setIfInBounds_toArray, List.set_cons_zero, List.set_cons_succ])
    | (apply calm_pure rfl
       case h => (intro w1; go_simp; rfl)
       simp only [Act.put, List.setIfInBounds_toArray, List.set_cons_zero, List.set_cons_succ])
  refine calm_call rfl (fun w1 hC => by first | (go_simp; done) | (go_simp; rfl)) (fun w1 hC => aw w1) ?_
  simp only [Act.put, List.setIfInBounds_toArray, List.set_cons_zero, List.set_cons_succ]
  first
    | (refine calm_not rfl ?_
       simp only [Act.put, List.setIfInBounds_toArray, List.set_cons_zero, List.set_cons_succ])
    | (apply calm_pure rfl
       case h => (intro w1; go_simp; rfl)
       simp only [Act.put, List.setIfInBounds_toArray, List.set_cons_zero, List.set_cons_succ])
  first
    | (refine calm_not rfl ?_
       simp only [Act.put, List.setIfInBounds_toArray, List.set_cons_zero, List.set_cons_succ])
    | (apply calm_pure rfl
       case h => (intro w1; go_simp; rfl)
       simp only [Act.put, List.setIfInBounds_toArray, List.set_cons_zero, List.set_cons_succ])
  refine wpQuiet_nil ?_
  intro w11 hC
  replace hw_w4 := below_tr hw_w4 hC
  clear hC
  go_wp2_with fail
  go_ret
  exact ⟨rfl, hw_w4⟩
end Go.Proofs.Ytdhaedjmlddjcaa
