/- law8.PointLaws: whatever the numbers, it returns true. No conditions beyond the sizes. -/
import Derived.Test.YtdhaedjmlddjcaaSome
import Derived.Test.YtdhaedjmlddjcaaAll
namespace Go.Num
open Go Go.RowKit Go.Crv
theorem there48 {w : World} {b : Nat} {t : TypeId} {x0 x1 x2 x3 x4 x5 x6 x7 : Value} (h : w.heap[b]? = some (.cells #[x0, x1, x2, x3, x4, x5, x6, x7] t)) : w.there b 0 4 := fun j hj => by
  rw [Nat.zero_add, cell_of h, frozen_of h]
  exact ⟨by rw [Array.getElem?_eq_getElem (by simp; omega)]; rfl, rfl⟩
theorem st4_at8 {w : World} {b n : Nat} {x0 x1 x2 x3 x4 x5 x6 x7 : Value} {t : TypeId} (h : w.heap[b]? = some (.cells #[x0, x1, x2, x3, x4, x5, x6, x7] t)) : (st4 w b n).heap[b]? = some (.cells #[.int .u64 (wd n 0), .int .u64 (wd n 1), .int .u64 (wd n 2), .int .u64 (wd n 3), x4, x5, x6, x7] t) :=
  hp_set (hp_set (hp_set (hp_set h)))
/-- A store of a number into the head of a variable of eight cells. -/
theorem wpList_store48 {P : Program} {ops : Array Oper} {rest : List Oper} {op : Oper} {a : Act} {w : World} {Q : Exit → Act → World → Prop} {ty : TypeId} {x y : Operand} {b n : Nat} {t : TypeId} {x0 x1 x2 x3 x4 x5 x6 x7 : Value}
    (hgd : op.guard = none) (ho : op.op = .store ty x y) (hx : a.eval x = .pointer (some ⟨b, 0, none⟩)) (hy : a.eval y = num n) (hb : w.heap[b]? = some (.cells #[x0, x1, x2, x3, x4, x5, x6, x7] t))
    (hi : (P.info? ty).map (·.size) = some 4)
    (hk : wpList P ops Q rest (a.put op.dst undef) (st4 w b n)) : wpList P ops Q (op :: rest) a w :=
  wpList_store_mid hgd ty x y ho b 0 #[.int .u64 (wd n 0), .int .u64 (wd n 1), .int .u64 (wd n 2), .int .u64 (wd n 3)] hx hy (there48 hb) hi (by simp [Value.oneCell']) hk
theorem neg_onP {P : Pt p} (h : onP P) : onP (neg P) := neg_on h
theorem neg_x (P : Pt p) : (neg P).x.val = fsub 0 P.x.val := by
  refine (val_eq (fsub_lt _ _) ?_).symm
  rw [fe_sub, fe_zero, fe_self]; rfl
theorem neg_y (P : Pt p) : (neg P).y.val = P.y.val := rfl
theorem away {P Q : Pt p} (hP : onP P) (hQ : onP Q) : gsum (gsum P Q) (neg Q) = P := by
  show add (fe dd) inv (add (fe dd) inv P Q) (neg Q) = P
  rw [good.assoc hP hQ (neg_onP hQ), good.add_neg hQ, good.add_zero hP]
end Go.Num
namespace Go.Proofs.Ytdhaedjmlddjcaa
open Go.RowKit Go.Mono Go.Num Go.Crv
set_option maxHeartbeats 4000000 in
theorem laws_any (a b ta tb k : Nat) (w : World) (ha : a < 18446744073709551616) (hb : b < 18446744073709551616) (hta : ta < 256) (htb : tb < 256) (hk : k < 4294967296) :
    Calls Try.prog 5 #[.int .u64 a, .int .u64 b, .int .u8 ta, .int .u8 tb, .int .u32 k] w fun e w' => e = .returned (.bool true) ∧ Below w.heap.size w w' := by
  have hP := someP_on a ta
  have hQ := someP_on b tb
  have h1 := fun w => some_any a ta w ha hta
  have h2 := fun w => some_any b tb w hb htb
  generalize someP a ta = P at *
  generalize someP b tb = Q at *
  have hS := gsum_on hP hQ
  have hM := gmul_on hP k
  have c1 := fun w => add_g P Q w hP hQ
  have c2 := fun w => add_g Q P w hQ hP
  rw [show gsum Q P = gsum P Q from add_comm Q P] at c2
  have cs := fun w => rsub_any 0 Q.x.val w (by decide) (val_W _)
  rw [num_zero] at cs
  have c3 := fun w => add_g (gsum P Q) (neg Q) w hS (neg_onP hQ)
  rw [away hP hQ, neg_x, neg_y] at c3
  have c4 := fun w => add_g P zero w hP zero_onP
  rw [show gsum P zero = P from good.add_zero hP, zero_valX, zero_valY] at c4
  have c5 := fun w => mul_g k P w (word_W (by omega)) hP
  rw [num_word k (by omega)] at c5
  have c6 := fun w => add_g (gmul P k) P w hM hP
  rw [show gsum (gmul P k) P = gmul P (k + 1) from rfl] at c6
  have c7 := fun w => mul_g (k + 1) P w (word_W (by omega)) hP
  rw [num_word (k + 1) (by omega)] at c7
  have c8 := fun w => mul_g 0 P w (by decide) hP
  rw [num_zero, show gmul P 0 = zero from rfl, zero_valX, zero_valY] at c8
  have o1 := fun w => on_g (gsum P Q) w hS
  have o2 := fun w => on_g (gmul P k) w hM
  have z1 := fun w => zero_any w
  have aw := fun w => awake_any w
  have q1 := fun w => eq_pt_self (gsum P Q).x.val (gsum P Q).y.val w (val_W _) (val_W _)
  have q2 := fun w => eq_pt_self P.x.val P.y.val w (val_W _) (val_W _)
  have q3 := fun w => eq_pt_self (gmul P (k + 1)).x.val (gmul P (k + 1)).y.val w (val_W _) (val_W _)
  have q4 := fun w => eq_pt_self 0 1 w (by decide) (by decide)
  clear hP hQ hS hM ha hb hta htb
  generalize (gsum P Q).x.val = SX at *
  generalize (gsum P Q).y.val = SY at *
  generalize (gmul P (k + 1)).x.val = NX at *
  generalize (gmul P (k + 1)).y.val = NY at *
  generalize (gmul P k).x.val = MX at *
  generalize (gmul P k).y.val = MY at *
  generalize fsub 0 Q.x.val = BX at *
  generalize P.x.val = PX at *
  generalize P.y.val = PY at *
  generalize Q.x.val = QX at *
  generalize Q.y.val = QY at *
  obtain ⟨U, V, hU, hV⟩ : ∃ U V : Nat, U = 0 ∧ V = 1 := ⟨0, 1, rfl, rfl⟩
  rw [← hU, ← hV] at q4
  rw [show pt 0 1 = pt U V by rw [hU, hV]] at c4 c8 z1
  clear hU hV
  have Q1 := Lib.hid q1
  have Q2 := Lib.hid q2
  have Q3 := Lib.hid q3
  have Q4 := Lib.hid q4
  have k1 : IntKind.u64.wrap (k : Int) = (k : Int) := by rw [IntKind.wrap_u64]; omega
  have k2 : IntKind.u64.wrap ((k : Int) + 1) = ((k + 1 : Nat) : Int) := by rw [IntKind.wrap_u64]; omega
  obtain ⟨K1, hK1⟩ : ∃ K1, k + 1 = K1 := ⟨_, rfl⟩
  rw [hK1] at k2 c7
  clear q1 q2 q3 q4 hk hK1
  go_enter Try.func5, Try.ntmps5
  go_wp2_with fail
  refine (h1 _).mono ?_
  rintro e w1 ⟨rfl, hw_w0⟩
  go_wp2_with fail
  refine (h2 _).mono ?_
  rintro e w2 ⟨rfl, hb⟩
  replace hw_w0 := below_tr' hw_w0 hb
  clear hb
  go_wp2_with fail
  obtain ⟨w3, hq_w3⟩ : ∃ w3, ((w2.alloc (.cells #[.int .u64 (wd PX 0), .int .u64 (wd PX 1), .int .u64 (wd PX 2), .int .u64 (wd PX 3), .int .u64 (wd PY 0), .int .u64 (wd PY 1), .int .u64 (wd PY 2), .int .u64 (wd PY 3)] 28)).alloc (.cells #[.int .u64 (wd QX 0), .int .u64 (wd QX 1), .int .u64 (wd QX 2), .int .u64 (wd QX 3), .int .u64 (wd QY 0), .int .u64 (wd QY 1), .int .u64 (wd QY 2), .int .u64 (wd QY 3)] 28)) = w3 := ⟨_, rfl⟩
  have hP : w3.heap[w2.heap.size]? = some (.cells #[.int .u64 (wd PX 0), .int .u64 (wd PX 1), .int .u64 (wd PX 2), .int .u64 (wd PX 3), .int .u64 (wd PY 0), .int .u64 (wd PY 1), .int .u64 (wd PY 2), .int .u64 (wd PY 3)] 28) := by rw [← hq_w3]; exact hp_old _ (hp_new _ (by simp))
  have hQ : w3.heap[w2.heap.size + 1]? = some (.cells #[.int .u64 (wd QX 0), .int .u64 (wd QX 1), .int .u64 (wd QX 2), .int .u64 (wd QX 3), .int .u64 (wd QY 0), .int .u64 (wd QY 1), .int .u64 (wd QY 2), .int .u64 (wd QY 3)] 28) := by rw [← hq_w3]; exact hp_new _ (by simp)
  have hs_w3 : w3.heap.size = w2.heap.size + 2 := by rw [← hq_w3]; simp
  have hw_w3 : Below w2.heap.size w2 w3 := by rw [← hq_w3]; exact ((Below.refl w2.heap.size w2).alloc (Nat.le_refl _) _).alloc (by simp) _
  rw [hq_w3]
  clear hq_w3
  replace hw_w3 := below_tr' hw_w0 hw_w3
  clear hw_w0 hs_w3 h1 h2
  generalize w2.heap.size = bP at *
  refine (c1 _).mono ?_
  rintro e w4 ⟨rfl, hb⟩
  replace hw_w3 := below_tr' hw_w3 hb
  replace hP := keep hb hP
  replace hQ := keep hb hQ
  clear hb
  go_upto_region 3 with (fail)
  have lQ := Go.Mono.lt_of_some hQ
  obtain ⟨w5, hq_w5⟩ : ∃ w5, (w4.alloc (.cells #[.int .u64 (wd SX 0), .int .u64 (wd SX 1), .int .u64 (wd SX 2), .int .u64 (wd SX 3), .int .u64 (wd SY 0), .int .u64 (wd SY 1), .int .u64 (wd SY 2), .int .u64 (wd SY 3)] 28)) = w5 := ⟨_, rfl⟩
  have hR : w5.heap[w4.heap.size]? = some (.cells #[.int .u64 (wd SX 0), .int .u64 (wd SX 1), .int .u64 (wd SX 2), .int .u64 (wd SX 3), .int .u64 (wd SY 0), .int .u64 (wd SY 1), .int .u64 (wd SY 2), .int .u64 (wd SY 3)] 28) := by rw [← hq_w5]; exact hp_new _ (by simp)
  have hs_w5 : w5.heap.size = w4.heap.size + 1 := by rw [← hq_w5]; simp
  have hw_w5 : Below w4.heap.size w4 w5 := by rw [← hq_w5]; exact (Below.refl w4.heap.size w4).alloc (Nat.le_refl _) _
  rw [hq_w5]
  clear hq_w5
  replace hw_w3 := below_tr' hw_w3 hw_w5
  replace hP := keep hw_w5 hP
  replace hQ := keep hw_w5 hQ
  clear hw_w5
  clear hs_w5
  generalize w4.heap.size = bR at *
  have cQ := cell_of hQ
  go_upto_region 4 with (fail)
  clear cQ
  have lR := Go.Mono.lt_of_some hR
  have lwB : w.heap.size ≤ w5.heap.size := hw_w3.size
  obtain ⟨w6, hq_w6⟩ : ∃ w6, (w5.alloc (.cells #[.int .u64 (wd QX 0), .int .u64 (wd QX 1), .int .u64 (wd QX 2), .int .u64 (wd QX 3), .int .u64 (wd QY 0), .int .u64 (wd QY 1), .int .u64 (wd QY 2), .int .u64 (wd QY 3)] 28)) = w6 := ⟨_, rfl⟩
  have hB : w6.heap[w5.heap.size]? = some (.cells #[.int .u64 (wd QX 0), .int .u64 (wd QX 1), .int .u64 (wd QX 2), .int .u64 (wd QX 3), .int .u64 (wd QY 0), .int .u64 (wd QY 1), .int .u64 (wd QY 2), .int .u64 (wd QY 3)] 28) := by rw [← hq_w6]; exact hp_new _ (by simp)
  have hs_w6 : w6.heap.size = w5.heap.size + 1 := by rw [← hq_w6]; simp
  have hw_w6 : Below w5.heap.size w5 w6 := by rw [← hq_w6]; exact (Below.refl w5.heap.size w5).alloc (Nat.le_refl _) _
  rw [hq_w6]
  clear hq_w6
  replace hw_w3 := below_tr' hw_w3 hw_w6
  replace hP := keep hw_w6 hP
  replace hQ := keep hw_w6 hQ
  replace hR := keep hw_w6 hR
  clear hw_w6
  clear hs_w6
  generalize w5.heap.size = bB at *
  have cQ := cell_of hQ
  go_wp2_with fail
  refine (cs _).mono ?_
  rintro e w7 ⟨rfl, hb⟩
  clear cQ
  replace hw_w3 := below_tr' hw_w3 hb
  replace hP := keep hb hP
  replace hQ := keep hb hQ
  replace hR := keep hb hR
  replace hB := keep hb hB
  clear hb
  go_upto_region 5 with (first | (refine wpList_store48 rfl rfl rfl rfl hB (by kernel_rfl) ?_; simp only [Act.put]))
  replace hw_w3 := st4_below (b := bB) (n := BX) hw_w3 lwB
  replace hP := st4_other (b := bB) (n := BX) hP (by omega)
  replace hQ := st4_other (b := bB) (n := BX) hQ (by omega)
  replace hR := st4_other (b := bB) (n := BX) hR (by omega)
  replace hB := st4_at8 (n := BX) hB
  generalize st4 w7 bB BX = w8 at *
  have cP := cell_of hP
  go_wp2_with fail
  refine (c5 _).mono ?_
  rintro e w9 ⟨rfl, hb⟩
  clear cP
  replace hw_w3 := below_tr' hw_w3 hb
  replace hP := keep hb hP
  replace hQ := keep hb hQ
  replace hR := keep hb hR
  replace hB := keep hb hB
  clear hb
  go_upto_region 6 with (fail)
  obtain ⟨w10, hq_w10⟩ : ∃ w10, (w9.alloc (.cells #[.int .u64 (wd MX 0), .int .u64 (wd MX 1), .int .u64 (wd MX 2), .int .u64 (wd MX 3), .int .u64 (wd MY 0), .int .u64 (wd MY 1), .int .u64 (wd MY 2), .int .u64 (wd MY 3)] 28)) = w10 := ⟨_, rfl⟩
  have hN : w10.heap[w9.heap.size]? = some (.cells #[.int .u64 (wd MX 0), .int .u64 (wd MX 1), .int .u64 (wd MX 2), .int .u64 (wd MX 3), .int .u64 (wd MY 0), .int .u64 (wd MY 1), .int .u64 (wd MY 2), .int .u64 (wd MY 3)] 28) := by rw [← hq_w10]; exact hp_new _ (by simp)
  have hs_w10 : w10.heap.size = w9.heap.size + 1 := by rw [← hq_w10]; simp
  have hw_w10 : Below w9.heap.size w9 w10 := by rw [← hq_w10]; exact (Below.refl w9.heap.size w9).alloc (Nat.le_refl _) _
  rw [hq_w10]
  clear hq_w10
  replace hw_w3 := below_tr' hw_w3 hw_w10
  replace hP := keep hw_w10 hP
  replace hQ := keep hw_w10 hQ
  replace hR := keep hw_w10 hR
  replace hB := keep hw_w10 hB
  clear hw_w10
  clear hs_w10
  generalize w9.heap.size = bN at *
  refine wp_region_calm (by kernel_rfl) (by kernel_rfl) ?_
  first
    | (refine calm_not rfl ?_
       simp only [Act.put, List.setIfInBounds_toArray, List.set_cons_zero, List.set_cons_succ])
    | (apply calm_pure rfl
       case h => (intro w1; go_simp; rfl)
       simp only [Act.put, List.setIfInBounds_toArray, List.set_cons_zero, List.set_cons_succ])
    | (apply calm_val rfl
       case h => (intro w1 hC; have cR := cell_of (keep hC (hp_drew hR)); clear hC; go_simp; rfl)
       simp only [Act.put, List.setIfInBounds_toArray, List.set_cons_zero, List.set_cons_succ])
  refine calm_call rfl (fun w1 hC => by first | (go_simp; done) | (go_simp; rfl)) (fun w1 hC => o1 w1) ?_
  simp only [Act.put, List.setIfInBounds_toArray, List.set_cons_zero, List.set_cons_succ]
  first
    | (refine calm_not rfl ?_
       simp only [Act.put, List.setIfInBounds_toArray, List.set_cons_zero, List.set_cons_succ])
    | (apply calm_pure rfl
       case h => (intro w1; go_simp; rfl)
       simp only [Act.put, List.setIfInBounds_toArray, List.set_cons_zero, List.set_cons_succ])
    | (apply calm_val rfl
       case h => (intro w1 hC; have cR := cell_of (keep hC (hp_drew hR)); have cP := cell_of (keep hC (hp_drew hP)); have cQ := cell_of (keep hC (hp_drew hQ)); clear hC; go_simp; rfl)
       simp only [Act.put, List.setIfInBounds_toArray, List.set_cons_zero, List.set_cons_succ])
  first
    | (refine calm_not rfl ?_
       simp only [Act.put, List.setIfInBounds_toArray, List.set_cons_zero, List.set_cons_succ])
    | (apply calm_pure rfl
       case h => (intro w1; go_simp; rfl)
       simp only [Act.put, List.setIfInBounds_toArray, List.set_cons_zero, List.set_cons_succ])
    | (apply calm_val rfl
       case h => (intro w1 hC; have cR := cell_of (keep hC (hp_drew hR)); have cP := cell_of (keep hC (hp_drew hP)); have cQ := cell_of (keep hC (hp_drew hQ)); clear hC; go_simp; rfl)
       simp only [Act.put, List.setIfInBounds_toArray, List.set_cons_zero, List.set_cons_succ])
  first
    | (refine calm_not rfl ?_
       simp only [Act.put, List.setIfInBounds_toArray, List.set_cons_zero, List.set_cons_succ])
    | (apply calm_pure rfl
       case h => (intro w1; go_simp; rfl)
       simp only [Act.put, List.setIfInBounds_toArray, List.set_cons_zero, List.set_cons_succ])
    | (apply calm_val rfl
       case h => (intro w1 hC; have cR := cell_of (keep hC (hp_drew hR)); have cP := cell_of (keep hC (hp_drew hP)); have cQ := cell_of (keep hC (hp_drew hQ)); clear hC; go_simp; rfl)
       simp only [Act.put, List.setIfInBounds_toArray, List.set_cons_zero, List.set_cons_succ])
  first
    | (refine calm_not rfl ?_
       simp only [Act.put, List.setIfInBounds_toArray, List.set_cons_zero, List.set_cons_succ])
    | (apply calm_pure rfl
       case h => (intro w1; go_simp; rfl)
       simp only [Act.put, List.setIfInBounds_toArray, List.set_cons_zero, List.set_cons_succ])
    | (apply calm_val rfl
       case h => (intro w1 hC; have cR := cell_of (keep hC (hp_drew hR)); have cP := cell_of (keep hC (hp_drew hP)); have cQ := cell_of (keep hC (hp_drew hQ)); clear hC; go_simp; rfl)
       simp only [Act.put, List.setIfInBounds_toArray, List.set_cons_zero, List.set_cons_succ])
  refine calm_call rfl (fun w1 hC => by first | (go_simp; done) | (go_simp; rfl)) (fun w1 hC => c2 w1) ?_
  simp only [Act.put, List.setIfInBounds_toArray, List.set_cons_zero, List.set_cons_succ]
  refine calm_val (v := .bool true) rfl (fun w1 hC => exec_eqP _ _ true w1 (Q1.out w1) _ _ _ rfl rfl rfl) ?_
  simp only [Act.put, List.setIfInBounds_toArray, List.set_cons_zero, List.set_cons_succ]
  first
    | (refine calm_not rfl ?_
       simp only [Act.put, List.setIfInBounds_toArray, List.set_cons_zero, List.set_cons_succ])
    | (apply calm_pure rfl
       case h => (intro w1; go_simp; rfl)
       simp only [Act.put, List.setIfInBounds_toArray, List.set_cons_zero, List.set_cons_succ])
    | (apply calm_val rfl
       case h => (intro w1 hC; have cR := cell_of (keep hC (hp_drew hR)); have cB := cell_of (keep hC (hp_drew hB)); clear hC; go_simp; rfl)
       simp only [Act.put, List.setIfInBounds_toArray, List.set_cons_zero, List.set_cons_succ])
  first
    | (refine calm_not rfl ?_
       simp only [Act.put, List.setIfInBounds_toArray, List.set_cons_zero, List.set_cons_succ])
    | (apply calm_pure rfl
       case h => (intro w1; go_simp; rfl)
       simp only [Act.put, List.setIfInBounds_toArray, List.set_cons_zero, List.set_cons_succ])
    | (apply calm_val rfl
       case h => (intro w1 hC; have cR := cell_of (keep hC (hp_drew hR)); have cB := cell_of (keep hC (hp_drew hB)); clear hC; go_simp; rfl)
       simp only [Act.put, List.setIfInBounds_toArray, List.set_cons_zero, List.set_cons_succ])
  first
    | (refine calm_not rfl ?_
       simp only [Act.put, List.setIfInBounds_toArray, List.set_cons_zero, List.set_cons_succ])
    | (apply calm_pure rfl
       case h => (intro w1; go_simp; rfl)
       simp only [Act.put, List.setIfInBounds_toArray, List.set_cons_zero, List.set_cons_succ])
    | (apply calm_val rfl
       case h => (intro w1 hC; have cR := cell_of (keep hC (hp_drew hR)); have cB := cell_of (keep hC (hp_drew hB)); clear hC; go_simp; rfl)
       simp only [Act.put, List.setIfInBounds_toArray, List.set_cons_zero, List.set_cons_succ])
  first
    | (refine calm_not rfl ?_
       simp only [Act.put, List.setIfInBounds_toArray, List.set_cons_zero, List.set_cons_succ])
    | (apply calm_pure rfl
       case h => (intro w1; go_simp; rfl)
       simp only [Act.put, List.setIfInBounds_toArray, List.set_cons_zero, List.set_cons_succ])
    | (apply calm_val rfl
       case h => (intro w1 hC; have cR := cell_of (keep hC (hp_drew hR)); have cB := cell_of (keep hC (hp_drew hB)); clear hC; go_simp; rfl)
       simp only [Act.put, List.setIfInBounds_toArray, List.set_cons_zero, List.set_cons_succ])
  refine calm_call rfl (fun w1 hC => by first | (go_simp; done) | (go_simp; rfl)) (fun w1 hC => c3 w1) ?_
  simp only [Act.put, List.setIfInBounds_toArray, List.set_cons_zero, List.set_cons_succ]
  first
    | (refine calm_not rfl ?_
       simp only [Act.put, List.setIfInBounds_toArray, List.set_cons_zero, List.set_cons_succ])
    | (apply calm_pure rfl
       case h => (intro w1; go_simp; rfl)
       simp only [Act.put, List.setIfInBounds_toArray, List.set_cons_zero, List.set_cons_succ])
    | (apply calm_val rfl
       case h => (intro w1 hC; have cP := cell_of (keep hC (hp_drew hP)); clear hC; go_simp; rfl)
       simp only [Act.put, List.setIfInBounds_toArray, List.set_cons_zero, List.set_cons_succ])
  refine calm_val (v := .bool true) rfl (fun w1 hC => exec_eqP _ _ true w1 (Q2.out w1) _ _ _ rfl rfl rfl) ?_
  simp only [Act.put, List.setIfInBounds_toArray, List.set_cons_zero, List.set_cons_succ]
  first
    | (refine calm_not rfl ?_
       simp only [Act.put, List.setIfInBounds_toArray, List.set_cons_zero, List.set_cons_succ])
    | (apply calm_pure rfl
       case h => (intro w1; go_simp; rfl)
       simp only [Act.put, List.setIfInBounds_toArray, List.set_cons_zero, List.set_cons_succ])
    | (apply calm_val rfl
       case h => (intro w1 hC; have cP := cell_of (keep hC (hp_drew hP)); clear hC; go_simp; rfl)
       simp only [Act.put, List.setIfInBounds_toArray, List.set_cons_zero, List.set_cons_succ])
  first
    | (refine calm_not rfl ?_
       simp only [Act.put, List.setIfInBounds_toArray, List.set_cons_zero, List.set_cons_succ])
    | (apply calm_pure rfl
       case h => (intro w1; go_simp; rfl)
       simp only [Act.put, List.setIfInBounds_toArray, List.set_cons_zero, List.set_cons_succ])
    | (apply calm_val rfl
       case h => (intro w1 hC; have cP := cell_of (keep hC (hp_drew hP)); clear hC; go_simp; rfl)
       simp only [Act.put, List.setIfInBounds_toArray, List.set_cons_zero, List.set_cons_succ])
  first
    | (refine calm_not rfl ?_
       simp only [Act.put, List.setIfInBounds_toArray, List.set_cons_zero, List.set_cons_succ])
    | (apply calm_pure rfl
       case h => (intro w1; go_simp; rfl)
       simp only [Act.put, List.setIfInBounds_toArray, List.set_cons_zero, List.set_cons_succ])
    | (apply calm_val rfl
       case h => (intro w1 hC; have cP := cell_of (keep hC (hp_drew hP)); clear hC; go_simp; rfl)
       simp only [Act.put, List.setIfInBounds_toArray, List.set_cons_zero, List.set_cons_succ])
  refine calm_call rfl (fun w1 hC => by first | (go_simp; done) | (go_simp; rfl)) (fun w1 hC => z1 w1) ?_
  simp only [Act.put, List.setIfInBounds_toArray, List.set_cons_zero, List.set_cons_succ]
  refine calm_call rfl (fun w1 hC => by first | (go_simp; done) | (go_simp; rfl)) (fun w1 hC => c4 w1) ?_
  simp only [Act.put, List.setIfInBounds_toArray, List.set_cons_zero, List.set_cons_succ]
  first
    | (refine calm_not rfl ?_
       simp only [Act.put, List.setIfInBounds_toArray, List.set_cons_zero, List.set_cons_succ])
    | (apply calm_pure rfl
       case h => (intro w1; go_simp; rfl)
       simp only [Act.put, List.setIfInBounds_toArray, List.set_cons_zero, List.set_cons_succ])
    | (apply calm_val rfl
       case h => (intro w1 hC; have cP := cell_of (keep hC (hp_drew hP)); clear hC; go_simp; rfl)
       simp only [Act.put, List.setIfInBounds_toArray, List.set_cons_zero, List.set_cons_succ])
  refine calm_val (v := .bool true) rfl (fun w1 hC => exec_eqP _ _ true w1 (Q2.out w1) _ _ _ rfl rfl rfl) ?_
  simp only [Act.put, List.setIfInBounds_toArray, List.set_cons_zero, List.set_cons_succ]
  first
    | (refine calm_not rfl ?_
       simp only [Act.put, List.setIfInBounds_toArray, List.set_cons_zero, List.set_cons_succ])
    | (apply calm_pure rfl
       case h => (intro w1; go_simp; rfl)
       simp only [Act.put, List.setIfInBounds_toArray, List.set_cons_zero, List.set_cons_succ])
    | (apply calm_val rfl
       case h => (intro w1 hC; have cP := cell_of (keep hC (hp_drew hP)); have cN := cell_of (keep hC (hp_drew hN)); clear hC; go_simp; rfl)
       simp only [Act.put, List.setIfInBounds_toArray, List.set_cons_zero, List.set_cons_succ])
  first
    | (refine calm_not rfl ?_
       simp only [Act.put, List.setIfInBounds_toArray, List.set_cons_zero, List.set_cons_succ])
    | (apply calm_pure rfl
       case h => (intro w1; go_simp; rfl)
       simp only [Act.put, List.setIfInBounds_toArray, List.set_cons_zero, List.set_cons_succ])
    | (apply calm_val rfl
       case h => (intro w1 hC; have cP := cell_of (keep hC (hp_drew hP)); have cN := cell_of (keep hC (hp_drew hN)); clear hC; go_simp; rfl)
       simp only [Act.put, List.setIfInBounds_toArray, List.set_cons_zero, List.set_cons_succ])
  first
    | (refine calm_not rfl ?_
       simp only [Act.put, List.setIfInBounds_toArray, List.set_cons_zero, List.set_cons_succ])
    | (apply calm_pure rfl
       case h => (intro w1; go_simp; rfl)
       simp only [Act.put, List.setIfInBounds_toArray, List.set_cons_zero, List.set_cons_succ])
    | (apply calm_val rfl
       case h => (intro w1 hC; have cP := cell_of (keep hC (hp_drew hP)); have cN := cell_of (keep hC (hp_drew hN)); clear hC; go_simp; rfl)
       simp only [Act.put, List.setIfInBounds_toArray, List.set_cons_zero, List.set_cons_succ])
  first
    | (refine calm_not rfl ?_
       simp only [Act.put, List.setIfInBounds_toArray, List.set_cons_zero, List.set_cons_succ])
    | (apply calm_pure rfl
       case h => (intro w1; go_simp; rfl)
       simp only [Act.put, List.setIfInBounds_toArray, List.set_cons_zero, List.set_cons_succ])
    | (apply calm_val rfl
       case h => (intro w1 hC; have cP := cell_of (keep hC (hp_drew hP)); have cN := cell_of (keep hC (hp_drew hN)); clear hC; go_simp; rfl)
       simp only [Act.put, List.setIfInBounds_toArray, List.set_cons_zero, List.set_cons_succ])
  refine calm_call rfl (fun w1 hC => by first | (go_simp; done) | (go_simp; rfl)) (fun w1 hC => c6 w1) ?_
  simp only [Act.put, List.setIfInBounds_toArray, List.set_cons_zero, List.set_cons_succ]
  first
    | (refine calm_not rfl ?_
       simp only [Act.put, List.setIfInBounds_toArray, List.set_cons_zero, List.set_cons_succ])
    | (apply calm_pure rfl
       case h => (intro w1; go_simp; rfl)
       simp only [Act.put, List.setIfInBounds_toArray, List.set_cons_zero, List.set_cons_succ])
    | (apply calm_val rfl
       case h => (intro w1 hC; have cP := cell_of (keep hC (hp_drew hP)); clear hC; go_simp; rfl)
       simp only [Act.put, List.setIfInBounds_toArray, List.set_cons_zero, List.set_cons_succ])
  first
    | (refine calm_not rfl ?_
       simp only [Act.put, List.setIfInBounds_toArray, List.set_cons_zero, List.set_cons_succ])
    | (apply calm_pure rfl
       case h => (intro w1; go_simp; rfl)
       simp only [Act.put, List.setIfInBounds_toArray, List.set_cons_zero, List.set_cons_succ])
    | (apply calm_val rfl
       case h => (intro w1 hC; have cP := cell_of (keep hC (hp_drew hP)); clear hC; go_simp; rfl)
       simp only [Act.put, List.setIfInBounds_toArray, List.set_cons_zero, List.set_cons_succ])
  first
    | (refine calm_not rfl ?_
       simp only [Act.put, List.setIfInBounds_toArray, List.set_cons_zero, List.set_cons_succ])
    | (apply calm_pure rfl
       case h => (intro w1; go_simp; rfl)
       simp only [Act.put, List.setIfInBounds_toArray, List.set_cons_zero, List.set_cons_succ])
    | (apply calm_val rfl
       case h => (intro w1 hC; have cP := cell_of (keep hC (hp_drew hP)); clear hC; go_simp; rfl)
       simp only [Act.put, List.setIfInBounds_toArray, List.set_cons_zero, List.set_cons_succ])
  first
    | (refine calm_not rfl ?_
       simp only [Act.put, List.setIfInBounds_toArray, List.set_cons_zero, List.set_cons_succ])
    | (apply calm_pure rfl
       case h => (intro w1; go_simp; rfl)
       simp only [Act.put, List.setIfInBounds_toArray, List.set_cons_zero, List.set_cons_succ])
    | (apply calm_val rfl
       case h => (intro w1 hC; have cP := cell_of (keep hC (hp_drew hP)); clear hC; go_simp; rfl)
       simp only [Act.put, List.setIfInBounds_toArray, List.set_cons_zero, List.set_cons_succ])
  first
    | (refine calm_not rfl ?_
       simp only [Act.put, List.setIfInBounds_toArray, List.set_cons_zero, List.set_cons_succ])
    | (apply calm_pure rfl
       case h => (intro w1; go_simp; rfl)
       simp only [Act.put, List.setIfInBounds_toArray, List.set_cons_zero, List.set_cons_succ])
    | (apply calm_val rfl
       case h => (intro w1 hC; have cP := cell_of (keep hC (hp_drew hP)); clear hC; go_simp; rfl)
       simp only [Act.put, List.setIfInBounds_toArray, List.set_cons_zero, List.set_cons_succ])
  refine calm_call rfl (fun w1 hC => by first | (go_simp; done) | (go_simp; rfl)) (fun w1 hC => c7 w1) ?_
  simp only [Act.put, List.setIfInBounds_toArray, List.set_cons_zero, List.set_cons_succ]
  refine calm_val (v := .bool true) rfl (fun w1 hC => exec_eqP _ _ true w1 (Q3.out w1) _ _ _ rfl rfl rfl) ?_
  simp only [Act.put, List.setIfInBounds_toArray, List.set_cons_zero, List.set_cons_succ]
  first
    | (refine calm_not rfl ?_
       simp only [Act.put, List.setIfInBounds_toArray, List.set_cons_zero, List.set_cons_succ])
    | (apply calm_pure rfl
       case h => (intro w1; go_simp; rfl)
       simp only [Act.put, List.setIfInBounds_toArray, List.set_cons_zero, List.set_cons_succ])
    | (apply calm_val rfl
       case h => (intro w1 hC; have cN := cell_of (keep hC (hp_drew hN)); clear hC; go_simp; rfl)
       simp only [Act.put, List.setIfInBounds_toArray, List.set_cons_zero, List.set_cons_succ])
  first
    | (refine calm_not rfl ?_
       simp only [Act.put, List.setIfInBounds_toArray, List.set_cons_zero, List.set_cons_succ])
    | (apply calm_pure rfl
       case h => (intro w1; go_simp; rfl)
       simp only [Act.put, List.setIfInBounds_toArray, List.set_cons_zero, List.set_cons_succ])
    | (apply calm_val rfl
       case h => (intro w1 hC; have cN := cell_of (keep hC (hp_drew hN)); clear hC; go_simp; rfl)
       simp only [Act.put, List.setIfInBounds_toArray, List.set_cons_zero, List.set_cons_succ])
  first
    | (refine calm_not rfl ?_
       simp only [Act.put, List.setIfInBounds_toArray, List.set_cons_zero, List.set_cons_succ])
    | (apply calm_pure rfl
       case h => (intro w1; go_simp; rfl)
       simp only [Act.put, List.setIfInBounds_toArray, List.set_cons_zero, List.set_cons_succ])
    | (apply calm_val rfl
       case h => (intro w1 hC; have cN := cell_of (keep hC (hp_drew hN)); clear hC; go_simp; rfl)
       simp only [Act.put, List.setIfInBounds_toArray, List.set_cons_zero, List.set_cons_succ])
  refine calm_call rfl (fun w1 hC => by first | (go_simp; done) | (go_simp; rfl)) (fun w1 hC => o2 w1) ?_
  simp only [Act.put, List.setIfInBounds_toArray, List.set_cons_zero, List.set_cons_succ]
  first
    | (refine calm_not rfl ?_
       simp only [Act.put, List.setIfInBounds_toArray, List.set_cons_zero, List.set_cons_succ])
    | (apply calm_pure rfl
       case h => (intro w1; go_simp; rfl)
       simp only [Act.put, List.setIfInBounds_toArray, List.set_cons_zero, List.set_cons_succ])
    | (apply calm_val rfl
       case h => (intro w1 hC; have cP := cell_of (keep hC (hp_drew hP)); clear hC; go_simp; rfl)
       simp only [Act.put, List.setIfInBounds_toArray, List.set_cons_zero, List.set_cons_succ])
  first
    | (refine calm_not rfl ?_
       simp only [Act.put, List.setIfInBounds_toArray, List.set_cons_zero, List.set_cons_succ])
    | (apply calm_pure rfl
       case h => (intro w1; go_simp; rfl)
       simp only [Act.put, List.setIfInBounds_toArray, List.set_cons_zero, List.set_cons_succ])
    | (apply calm_val rfl
       case h => (intro w1 hC; have cP := cell_of (keep hC (hp_drew hP)); clear hC; go_simp; rfl)
       simp only [Act.put, List.setIfInBounds_toArray, List.set_cons_zero, List.set_cons_succ])
  first
    | (refine calm_not rfl ?_
       simp only [Act.put, List.setIfInBounds_toArray, List.set_cons_zero, List.set_cons_succ])
    | (apply calm_pure rfl
       case h => (intro w1; go_simp; rfl)
       simp only [Act.put, List.setIfInBounds_toArray, List.set_cons_zero, List.set_cons_succ])
    | (apply calm_val rfl
       case h => (intro w1 hC; have cP := cell_of (keep hC (hp_drew hP)); clear hC; go_simp; rfl)
       simp only [Act.put, List.setIfInBounds_toArray, List.set_cons_zero, List.set_cons_succ])
  first
    | (refine calm_not rfl ?_
       simp only [Act.put, List.setIfInBounds_toArray, List.set_cons_zero, List.set_cons_succ])
    | (apply calm_pure rfl
       case h => (intro w1; go_simp; rfl)
       simp only [Act.put, List.setIfInBounds_toArray, List.set_cons_zero, List.set_cons_succ])
    | (apply calm_val rfl
       case h => (intro w1 hC; have cP := cell_of (keep hC (hp_drew hP)); clear hC; go_simp; rfl)
       simp only [Act.put, List.setIfInBounds_toArray, List.set_cons_zero, List.set_cons_succ])
  refine calm_call rfl (fun w1 hC => by first | (go_simp; done) | (go_simp; rfl)) (fun w1 hC => c8 w1) ?_
  simp only [Act.put, List.setIfInBounds_toArray, List.set_cons_zero, List.set_cons_succ]
  refine calm_call rfl (fun w1 hC => by first | (go_simp; done) | (go_simp; rfl)) (fun w1 hC => z1 w1) ?_
  simp only [Act.put, List.setIfInBounds_toArray, List.set_cons_zero, List.set_cons_succ]
  refine calm_val (v := .bool true) rfl (fun w1 hC => exec_eqP _ _ true w1 (Q4.out w1) _ _ _ rfl rfl rfl) ?_
  simp only [Act.put, List.setIfInBounds_toArray, List.set_cons_zero, List.set_cons_succ]
  first
    | (refine calm_not rfl ?_
       simp only [Act.put, List.setIfInBounds_toArray, List.set_cons_zero, List.set_cons_succ])
    | (apply calm_pure rfl
       case h => (intro w1; go_simp; rfl)
       simp only [Act.put, List.setIfInBounds_toArray, List.set_cons_zero, List.set_cons_succ])
  first
    | (refine calm_not rfl ?_
       simp only [Act.put, List.setIfInBounds_toArray, List.set_cons_zero, List.set_cons_succ])
    | (apply calm_pure rfl
       case h => (intro w1; go_simp; rfl)
       simp only [Act.put, List.setIfInBounds_toArray, List.set_cons_zero, List.set_cons_succ])
  refine calm_call rfl (fun w1 hC => by first | (go_simp; done) | (go_simp; rfl)) (fun w1 hC => aw w1) ?_
  simp only [Act.put, List.setIfInBounds_toArray, List.set_cons_zero, List.set_cons_succ]
  first
    | (refine calm_not rfl ?_
       simp only [Act.put, List.setIfInBounds_toArray, List.set_cons_zero, List.set_cons_succ])
    | (apply calm_pure rfl
       case h => (intro w1; go_simp; rfl)
       simp only [Act.put, List.setIfInBounds_toArray, List.set_cons_zero, List.set_cons_succ])
  first
    | (refine calm_not rfl ?_
       simp only [Act.put, List.setIfInBounds_toArray, List.set_cons_zero, List.set_cons_succ])
    | (apply calm_pure rfl
       case h => (intro w1; go_simp; rfl)
       simp only [Act.put, List.setIfInBounds_toArray, List.set_cons_zero, List.set_cons_succ])
  refine wpQuiet_nil ?_
  intro w11 hC
  replace hw_w3 := below_tr hw_w3 hC
  clear hC
  go_wp2_with fail
  go_ret
  exact ⟨rfl, hw_w3⟩
end Go.Proofs.Ytdhaedjmlddjcaa
