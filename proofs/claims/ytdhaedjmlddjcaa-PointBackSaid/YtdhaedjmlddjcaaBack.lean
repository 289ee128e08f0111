/- law8.PointBack: whatever the numbers, it returns true. No conditions beyond the sizes. -/
import Derived.Test.YtdhaedjmlddjcaaBackM
import Derived.Test.YtdhaedjmlddjcaaAll
import Derived.Test.YtdhaedjmlddjcaaLaws
namespace Go.Proofs.Ytdhaedjmlddjcaa
open Go.RowKit Go.Mono Go.Num Go.Crv
theorem seq_not {P : Program} {ops : Array Oper} {Q : Exit → Act → World → Prop} {o : Oper} {rest : List Oper} {a : Act} {w : World} (hw : Region.wanted o (yielded ops a.tmps) = false)
    (hk : wpList P ops Q rest (a.put o.dst undef) w) : wpList P ops Q (o :: rest) a w := wpList_skip hw hk
theorem seq_call {P : Program} {ops : Array Oper} {Q : Exit → Act → World → Prop} {o : Oper} {rest : List Oper} {a : Act} {w : World} {f : FuncId} {args : Array Value} {v : Value} (hw : Region.wanted o (yielded ops a.tmps) = true) (h : (execOp a.eval o).run P w = .ok (.enter f args) w)
    (hc : Calls P f args w (fun e w' => e = .returned v ∧ Below w.heap.size w w')) (hk : ∀ w', Below w.heap.size w w' → wpList P ops Q rest (a.put o.dst v) w') : wpList P ops Q (o :: rest) a w := by
  unfold wpList
  rw [if_pos hw]
  refine .inl ?_
  unfold Oper.wp
  rw [h]
  refine hc.mono fun e w' ⟨he, hb⟩ => ?_
  subst he
  exact hk w' hb
theorem exec_neqP (a b : Array Value) (Z : Bool) (w : World) (h : (Op.equalIn 10000 28 (.agg a) (.agg b)).run Try.prog w = .ok Z w) {o : Oper} {ρ : Operand → Value} (x y : Operand) (t : TypeId)
    (ho : o.op = .binOp .neq 28 x y t) (hx : ρ x = .agg a) (hy : ρ y = .agg b) : (execOp ρ o).run Try.prog w = .ok (.value (.bool (!Z))) w := by
  unfold execOp
  rw [ho]
  simp only [hx, hy]
  have h2 := run_neq_struct (P := Try.prog) w 28 a b
  rw [h] at h2
  clear h hx hy ho
  generalize binOp .neq 28 (.agg a) (.agg b) = B at *
  simp [go_sem]
  rw [h2]; rfl
/-- A text whose bytes are those of y, with a bit above. -/
theorem said_bit {x y c : Nat} (hx : x < p) (hy : y < p) (h : On (fe dd) (fe x) (fe y)) (f : Nat → Nat) (hf : ∀ j, f j < 256) (hc : c ≤ 1) (hlo : ∀ j, j < 31 → f j = byteAt y j) (hhi : f 31 = byteAt y 31 + c * 128) :
    rfOk f = !(decide (c = 1) && decide (x = 0)) ∧ rfX f = (if c = 1 then fsub 0 (evenOf x) else evenOf x) ∧ rfY f = y := by
  have hb := byteAt31_lt hy
  have hg : ∀ j, j < 32 → gAt f j = byteAt y j := fun j hj => by
    unfold gAt
    by_cases h31 : j = 31
    · subst h31; rw [if_pos rfl, hhi]; omega
    · rw [if_neg h31, hlo j (by omega)]
  have hY : rfY f = y := by
    rw [← fromN_eq f hf]
    unfold fromN
    rw [numOf_congr 32 hg, numOf_byteAt]
    exact Nat.mod_eq_of_lt (Nat.lt_trans hy (by decide +kernel))
  obtain ⟨h1, h2, h3⟩ := said hx hy h f hY
  have ho : rfOdd f = decide (c = 1) := by
    rw [rfOdd_eq f hf, hhi]
    exact decide_eq_decide.2 (by omega)
  have hz : rfZ f = decide (x = 0) := by
    unfold rfZ eqN
    rw [h3]
    exact decide_eq_decide.2 (even_zero hx)
  refine ⟨?_, ?_, hY⟩
  · unfold rfOk
    rw [h1, h2, ho, hz, Bool.true_and, Bool.true_and]
  · unfold rfX
    rw [ho, h3]
    by_cases h4 : c = 1
    · rw [decide_eq_true h4, if_pos rfl, if_pos h4]
    · rw [decide_eq_false h4, if_neg Bool.false_ne_true, if_neg h4]
theorem from_said {f : Nat → Nat} (hf : ∀ j, f j < 256) {X Y : Nat} {O : Bool} (h1 : rfOk f = O) (h2 : rfX f = X) (h3 : rfY f = Y) (w : World) :
    Calls Try.prog 23 #[.string (bstr f 32)] w fun e w' => e = .returned (.tuple #[pt (if O then X else 0) (if O then Y else 0), .bool O]) ∧ Below w.heap.size w w' := by
  obtain ⟨g1, g2⟩ := spot_same f hf
  have hp := pfrom_any f w hf
  rw [g1, h1] at hp
  cases O with
  | true =>
    obtain ⟨g3, g4⟩ := g2 h1
    rw [g3, g4, h2, h3] at hp
    exact hp
  | false =>
    rw [if_neg Bool.false_ne_true, if_neg Bool.false_ne_true] at hp ⊢
    exact hp
/-- The bytes with the highest bit turned. -/
def turned (x y j : Nat) : Nat := if j = 31 then pbyte x y 31 ^^^ 128 else pbyte x y j
theorem xor_low (b c : Nat) (hb : b < 128) (hc : c ≤ 1) : (b + c * 128) ^^^ 128 = b + (1 - c) * 128 := by
  have h1 : ∀ b : Fin 128, ((b.1 + 0 * 128) ^^^ 128 = b.1 + 1 * 128) ∧ ((b.1 + 1 * 128) ^^^ 128 = b.1 + 0 * 128) := by decide
  rcases (show c = 0 ∨ c = 1 by omega) with rfl | rfl
  · exact (h1 ⟨b, hb⟩).1
  · exact (h1 ⟨b, hb⟩).2
theorem turned_31 {x y : Nat} (hy : y < p) : turned x y 31 = byteAt y 31 + (1 - x % 2) * 128 := by
  unfold turned
  rw [if_pos rfl, pbyte_31 x y hy, xor_low _ _ (byteAt31_lt hy) (by omega)]
theorem turned_lt {x y : Nat} (hy : y < p) (j : Nat) : turned x y j < 256 := by
  by_cases h : j = 31
  · subst h
    rw [turned_31 hy]
    have := byteAt31_lt hy
    omega
  · unfold turned
    rw [if_neg h]
    exact pbyte_lt' x y j
theorem from_bytes {x y : Nat} (hx : x < p) (hy : y < p) (h : On (fe dd) (fe x) (fe y)) (w : World) :
    Calls Try.prog 23 #[.string (bstr (pbyte x y) 32)] w fun e w' => e = .returned (.tuple #[pt x y, .bool true]) ∧ Below w.heap.size w w' := by
  obtain ⟨h1, h2, h3⟩ := said_bit (c := x % 2) hx hy h (pbyte x y) (pbyte_lt' x y) (by omega) (fun j hj => pbyte_low x y j hy (by omega)) (pbyte_31 x y hy)
  have h4 : rfOk (pbyte x y) = true := by
    rw [h1]
    by_cases h0 : x = 0
    · subst h0; rfl
    · rw [decide_eq_false h0, Bool.and_false]; rfl
  have h5 : rfX (pbyte x y) = x := by
    rw [h2]
    unfold evenOf
    by_cases h0 : x % 2 = 1
    · rw [if_pos h0, if_neg (by omega), even_back hx]
    · rw [if_neg h0, if_pos (by omega)]
  exact from_said (pbyte_lt' x y) h4 h5 h3 w
theorem from_turned {x y : Nat} (hx : x < p) (hy : y < p) (h : On (fe dd) (fe x) (fe y)) (w : World) :
    Calls Try.prog 23 #[.string (bstr (turned x y) 32)] w fun e w' => e = .returned (.tuple #[pt (if (!decide (x = 0)) = true then fsub 0 x else 0) (if (!decide (x = 0)) = true then y else 0), .bool (!decide (x = 0))]) ∧ Below w.heap.size w w' := by
  obtain ⟨h1, h2, h3⟩ := said_bit (c := 1 - x % 2) hx hy h (turned x y) (turned_lt hy) (by omega) (fun j hj => by unfold turned; rw [if_neg (by omega)]; exact pbyte_low x y j hy (by omega)) (turned_31 hy)
  have h4 : rfOk (turned x y) = !decide (x = 0) := by
    rw [h1]
    by_cases h0 : x = 0
    · subst h0; rfl
    · rw [decide_eq_false h0, Bool.and_false]
  have h5 : rfX (turned x y) = fsub 0 x := by
    rw [h2]
    unfold evenOf
    by_cases h0 : x % 2 = 0
    · rw [if_pos (by omega), if_pos h0]
    · rw [if_neg (by omega), if_neg h0]
  exact from_said (turned_lt hy) h4 h5 h3 w
theorem ord_none : mulX ordN baseX baseY = 0 ∧ mulY ordN baseX baseY = 1 := by decide +kernel
theorem flat_zero {x : Nat} (hx : x < p) : eqN (fsub 0 x) 0 = decide (x = 0) := by
  unfold eqN
  refine decide_eq_decide.2 ?_
  by_cases h0 : x = 0
  · subst h0; exact ⟨fun _ => rfl, fun _ => by decide +kernel⟩
  · rw [neg_val hx h0]; omega
theorem turned_set (x y : Nat) (z : Nat) : (brow (pbyte x y) 32 z).setIfInBounds 31 (.int .u8 ((pbyte x y 31 ^^^ 128 : Nat) : Int)) = brow (turned x y) 32 z := by
  rw [brow_set _ (by decide)]
  rfl
set_option maxHeartbeats 4000000 in
theorem back_any (a t : Nat) (w : World) (ha : a < 18446744073709551616) (ht : t < 256) :
    Calls Try.prog 9 #[.int .u64 a, .int .u8 t] w fun e w' => e = .returned (.bool true) ∧ Below w.heap.size w w' := by
  have hP := someP_on a t
  have c0 := fun w => some_any a t w ha ht
  generalize someP a t = P at *
  have hx := P.x.isLt
  have hy := P.y.isLt
  have hon : On (fe dd) (fe P.x.val) (fe P.y.val) := by rw [fe_self, fe_self]; exact hP
  have c1 := fun w => pbytes_any P.x.val P.y.val w (lt_W hy)
  have c2 := fun w => from_bytes hx hy hon w
  have c3 := fun w => from_turned hx hy hon w
  have cs := fun w => rsub_any 0 P.x.val w (by decide) (lt_W hx)
  rw [num_zero] at cs
  have c4 := fun w => rorder_any w
  have c5 := fun w => pmul_any ordN baseX baseY w base_lt.1 base_lt.2
  rw [ord_none.1, ord_none.2] at c5
  have c6 := fun w => base_any w
  have z1 := fun w => zero_any w
  have aw := fun w => awake_any w
  have q1 := fun w => eq_pt_self P.x.val P.y.val w (lt_W hx) (lt_W hy)
  have q2 := fun w => eq_pt_self (fsub 0 P.x.val) P.y.val w (lt_W (fsub_lt _ _)) (lt_W hy)
  have q3 := fun w => eq_num (fsub 0 P.x.val) 0 w (lt_W (fsub_lt _ _)) (by decide)
  rw [flat_zero hx, num_zero] at q3
  have q4 := fun w => eq_pt_self 0 1 w (by decide) (by decide)
  obtain ⟨U, V, hU, hV⟩ : ∃ U V : Nat, U = 0 ∧ V = 1 := ⟨0, 1, rfl, rfl⟩
  rw [← hU, ← hV] at q4
  rw [show pt 0 1 = pt U V by rw [hU, hV]] at c5 z1
  clear hU hV hP hon ht
  have hts := turned_set P.x.val P.y.val
  have hpl := pbyte_lt' P.x.val P.y.val
  have hxv : bits .xor .u8 ((pbyte P.x.val P.y.val 31 : Nat) : Int) 128 = ((pbyte P.x.val P.y.val 31 ^^^ 128 : Nat) : Int) := u8_xor_nat _ 128 (hpl 31) (by decide)
  have hsz := bstr_size (pbyte P.x.val P.y.val) 32
  generalize pbyte P.x.val P.y.val = F at *
  generalize turned P.x.val P.y.val = G at *
  generalize num ordN = OR at *
  generalize pt baseX baseY = BS at *
  have Q1 := Lib.hid q1
  have Q2 := Lib.hid q2
  have Q3 := Lib.hid q3
  have Q4 := Lib.hid q4
  clear q1 q2 q3 q4 hx hy ha
  generalize hNX : fsub 0 P.x.val = NX at *
  generalize hNY : P.y.val = Y at *
  generalize hFL : decide (P.x.val = 0) = FL at *
  generalize P.x.val = X at *
  clear hNX hNY hFL
  obtain ⟨B31, hB31⟩ : ∃ B31, F 31 ^^^ 128 = B31 := ⟨_, rfl⟩
  rw [hB31] at hxv
  have hts2 := fun z => hts z
  rw [hB31] at hts2
  clear hts hB31
  go_enter Try.func9, Try.ntmps9
  go_wp2_with fail
  refine (c0 _).mono ?_
  rintro e w1 ⟨rfl, hw_w0⟩
  go_upto_region 2 with (fail)
  obtain ⟨w2, hq_w2⟩ : ∃ w2, (w1.alloc (.cells #[.int .u64 (wd X 0), .int .u64 (wd X 1), .int .u64 (wd X 2), .int .u64 (wd X 3), .int .u64 (wd Y 0), .int .u64 (wd Y 1), .int .u64 (wd Y 2), .int .u64 (wd Y 3)] 28)) = w2 := ⟨_, rfl⟩
  have hP : w2.heap[w1.heap.size]? = some (.cells #[.int .u64 (wd X 0), .int .u64 (wd X 1), .int .u64 (wd X 2), .int .u64 (wd X 3), .int .u64 (wd Y 0), .int .u64 (wd Y 1), .int .u64 (wd Y 2), .int .u64 (wd Y 3)] 28) := by rw [← hq_w2]; exact hp_new _ (by simp)
  have hs_w2 : w2.heap.size = w1.heap.size + 1 := by rw [← hq_w2]; simp
  have hw_w2 : Below w1.heap.size w1 w2 := by rw [← hq_w2]; exact (Below.refl w1.heap.size w1).alloc (Nat.le_refl _) _
  rw [hq_w2]
  clear hq_w2
  replace hw_w2 := below_tr' hw_w0 hw_w2
  have lwP := hw_w0.size
  clear hw_w0 hs_w2
  generalize w1.heap.size = bP at *
  have cP := cell_of hP
  go_wp2_with fail
  refine (c1 _).mono ?_
  rintro e w3 ⟨rfl, hb⟩
  clear cP
  replace hw_w2 := below_tr' hw_w2 hb
  replace hP := keep hb hP
  clear hb
  go_wp2_with fail
  refine (c2 _).mono ?_
  rintro e w4 ⟨rfl, hb⟩
  replace hw_w2 := below_tr' hw_w2 hb
  replace hP := keep hb hP
  clear hb
  go_upto_region 4 with (fail)
  have lP := Go.Mono.lt_of_some hP
  obtain ⟨w5, hq_w5⟩ : ∃ w5, (w4.alloc (.cells #[.int .u64 (wd X 0), .int .u64 (wd X 1), .int .u64 (wd X 2), .int .u64 (wd X 3), .int .u64 (wd Y 0), .int .u64 (wd Y 1), .int .u64 (wd Y 2), .int .u64 (wd Y 3)] 28)) = w5 := ⟨_, rfl⟩
  have hQ : w5.heap[w4.heap.size]? = some (.cells #[.int .u64 (wd X 0), .int .u64 (wd X 1), .int .u64 (wd X 2), .int .u64 (wd X 3), .int .u64 (wd Y 0), .int .u64 (wd Y 1), .int .u64 (wd Y 2), .int .u64 (wd Y 3)] 28) := by rw [← hq_w5]; exact hp_new _ (by simp)
  have hs_w5 : w5.heap.size = w4.heap.size + 1 := by rw [← hq_w5]; simp
  have hw_w5 : Below w4.heap.size w4 w5 := by rw [← hq_w5]; exact (Below.refl w4.heap.size w4).alloc (Nat.le_refl _) _
  rw [hq_w5]
  clear hq_w5
  replace hw_w2 := below_tr' hw_w2 hw_w5
  replace hP := keep hw_w5 hP
  clear hw_w5
  clear hs_w5
  generalize w4.heap.size = bQ at *
  have cP := cell_of hP
  have cQ := cell_of hQ
  refine wp_region_lit ?_
  first
    | (refine seq_not rfl ?_
       simp only [Act.put, List.setIfInBounds_toArray, List.set_cons_zero, List.set_cons_succ])
    | (apply seq_val rfl
       case h => (go_simp; rfl)
       simp only [Act.put, List.setIfInBounds_toArray, List.set_cons_zero, List.set_cons_succ])
  first
    | (refine seq_not rfl ?_
       simp only [Act.put, List.setIfInBounds_toArray, List.set_cons_zero, List.set_cons_succ])
    | (apply seq_val rfl
       case h => (go_simp; rfl)
       simp only [Act.put, List.setIfInBounds_toArray, List.set_cons_zero, List.set_cons_succ])
  first
    | (refine seq_not rfl ?_
       simp only [Act.put, List.setIfInBounds_toArray, List.set_cons_zero, List.set_cons_succ])
    | (apply seq_val rfl
       case h => (go_simp; rfl)
       simp only [Act.put, List.setIfInBounds_toArray, List.set_cons_zero, List.set_cons_succ])
  first
    | (refine seq_not rfl ?_
       simp only [Act.put, List.setIfInBounds_toArray, List.set_cons_zero, List.set_cons_succ])
    | (apply seq_val rfl
       case h => (go_simp; rfl)
       simp only [Act.put, List.setIfInBounds_toArray, List.set_cons_zero, List.set_cons_succ])
  first
    | (refine seq_not rfl ?_
       simp only [Act.put, List.setIfInBounds_toArray, List.set_cons_zero, List.set_cons_succ])
    | (apply seq_val rfl
       case h => (go_simp; rfl)
       simp only [Act.put, List.setIfInBounds_toArray, List.set_cons_zero, List.set_cons_succ])
  first
    | (refine seq_not rfl ?_
       simp only [Act.put, List.setIfInBounds_toArray, List.set_cons_zero, List.set_cons_succ])
    | (apply seq_val rfl
       case h => (go_simp; rfl)
       simp only [Act.put, List.setIfInBounds_toArray, List.set_cons_zero, List.set_cons_succ])
  first
    | (refine seq_not rfl ?_
       simp only [Act.put, List.setIfInBounds_toArray, List.set_cons_zero, List.set_cons_succ])
    | (apply seq_val rfl
       case h => (go_simp; rfl)
       simp only [Act.put, List.setIfInBounds_toArray, List.set_cons_zero, List.set_cons_succ])
  first
    | (refine seq_not rfl ?_
       simp only [Act.put, List.setIfInBounds_toArray, List.set_cons_zero, List.set_cons_succ])
    | (apply seq_val rfl
       case h => (go_simp; rfl)
       simp only [Act.put, List.setIfInBounds_toArray, List.set_cons_zero, List.set_cons_succ])
  first
    | (refine seq_not rfl ?_
       simp only [Act.put, List.setIfInBounds_toArray, List.set_cons_zero, List.set_cons_succ])
    | (apply seq_val rfl
       case h => (go_simp; rfl)
       simp only [Act.put, List.setIfInBounds_toArray, List.set_cons_zero, List.set_cons_succ])
  first
    | (refine seq_not rfl ?_
       simp only [Act.put, List.setIfInBounds_toArray, List.set_cons_zero, List.set_cons_succ])
    | (apply seq_val rfl
       case h => (go_simp; rfl)
       simp only [Act.put, List.setIfInBounds_toArray, List.set_cons_zero, List.set_cons_succ])
  refine seq_val (v := .bool (!true)) rfl (exec_neqP _ _ true _ (Q1.out w5) _ _ _ rfl rfl rfl) ?_
  simp only [Act.put, List.setIfInBounds_toArray, List.set_cons_zero, List.set_cons_succ]
  first
    | (refine seq_not rfl ?_
       simp only [Act.put, List.setIfInBounds_toArray, List.set_cons_zero, List.set_cons_succ])
    | (apply seq_val rfl
       case h => (go_simp; rfl)
       simp only [Act.put, List.setIfInBounds_toArray, List.set_cons_zero, List.set_cons_succ])
  refine wpList_nil ?_
  clear cP cQ hQ
  go_upto_region 6 with (fail)
  obtain ⟨c, s, z, w6, hz, hs32, hcv, hs, hb⟩ := run_bytes_new (P := Try.prog) w5 9 49 5 32 F hpl Try.underlying9 Try.underlying49 Try.underlying5
  have lS := Go.Mono.lt_of_some hP
  replace hw_w2 := below_tr' hw_w2 hb
  replace hP := keep hb hP
  clear hb
  generalize w5.heap.size = bS at *
  go_upto_region 7 with (fail)
  clear hcv
  have cs7 := brow_at hs 31 (by decide)
  have fs7 := frozen_row hz hs 31 (by clear hxv; omega)
  have hs2 := hp_set (o := 31) (v := .int .u8 (B31 : Int)) hs
  rw [hts2] at hs2
  have hP2 := hp_set_ne (o := 31) (v := .int .u8 (B31 : Int)) (b' := bS) hP (by clear hxv; omega)
  have hw2 := hw_w2.setCell (p := ⟨bS, 31, none⟩) (by simp; clear hxv; omega) (.int .u8 (B31 : Int))
  go_upto_region 8 with (fail)
  clear cs7 fs7 hs hP hw_w2 hz
  have hP := hP2
  have hw_w2 := hw2
  clear hP2 hw2
  generalize w6.setCell ⟨bS, 31, none⟩ (.int .u8 (B31 : Int)) = w7 at *
  have hst := run_brow (P := Try.prog) (c := c) hs2 Try.underlying49 Try.underlying5 Try.underlying9
  cases FL with
  | true =>
    simp only [Bool.not_true, Bool.false_eq_true, if_false] at c3
    go_wp2_with fail
    refine (c3 _).mono ?_
    rintro e w8 ⟨rfl, hb⟩
    replace hw_w2 := below_tr' hw_w2 hb
    replace hP := keep hb hP
    clear hb
    clear hst
    go_upto_region 9 with (fail)
    have lP2 := Go.Mono.lt_of_some hP
    obtain ⟨w9, hq_w9⟩ : ∃ w9, (w8.alloc (.cells #[.int .u64 (wd 0 0), .int .u64 (wd 0 1), .int .u64 (wd 0 2), .int .u64 (wd 0 3), .int .u64 (wd 0 0), .int .u64 (wd 0 1), .int .u64 (wd 0 2), .int .u64 (wd 0 3)] 28)) = w9 := ⟨_, rfl⟩
    have hR : w9.heap[w8.heap.size]? = some (.cells #[.int .u64 (wd 0 0), .int .u64 (wd 0 1), .int .u64 (wd 0 2), .int .u64 (wd 0 3), .int .u64 (wd 0 0), .int .u64 (wd 0 1), .int .u64 (wd 0 2), .int .u64 (wd 0 3)] 28) := by rw [← hq_w9]; exact hp_new _ (by simp)
    have hs_w9 : w9.heap.size = w8.heap.size + 1 := by rw [← hq_w9]; simp
    have hw_w9 : Below w8.heap.size w8 w9 := by rw [← hq_w9]; exact (Below.refl w8.heap.size w8).alloc (Nat.le_refl _) _
    rw [hq_w9]
    clear hq_w9
    replace hw_w2 := below_tr' hw_w2 hw_w9
    replace hP := keep hw_w9 hP
    clear hw_w9
    clear hs_w9
    generalize w8.heap.size = bR at *
    have cP := cell_of hP
    go_wp2_with fail
    refine (cs _).mono ?_
    rintro e w10 ⟨rfl, hb⟩
    clear cP
    replace hw_w2 := below_tr' hw_w2 hb
    replace hP := keep hb hP
    replace hR := keep hb hR
    clear hb
    go_upto_region 10 with (first | (refine wpList_store48 rfl rfl rfl rfl hP (by kernel_rfl) ?_; simp only [Act.put]))
    replace hw_w2 := st4_below (b := bP) (n := NX) hw_w2 lwP
    replace hR := st4_other (b := bP) (n := NX) hR (by clear hxv; omega)
    replace hP := st4_at8 (n := NX) hP
    generalize st4 w10 bP NX = w11 at *
    have cP := cell_of hP
    refine wp_region_lit ?_
    first
      | (refine seq_not rfl ?_
         simp only [Act.put, List.setIfInBounds_toArray, List.set_cons_zero, List.set_cons_succ])
      | (apply seq_val rfl
         case h => (go_simp; rfl)
         simp only [Act.put, List.setIfInBounds_toArray, List.set_cons_zero, List.set_cons_succ])
    first
      | (refine seq_not rfl ?_
         simp only [Act.put, List.setIfInBounds_toArray, List.set_cons_zero, List.set_cons_succ])
      | (apply seq_val rfl
         case h => (go_simp; rfl)
         simp only [Act.put, List.setIfInBounds_toArray, List.set_cons_zero, List.set_cons_succ])
    first
      | (refine seq_not rfl ?_
         simp only [Act.put, List.setIfInBounds_toArray, List.set_cons_zero, List.set_cons_succ])
      | (apply seq_val rfl
         case h => (go_simp; rfl)
         simp only [Act.put, List.setIfInBounds_toArray, List.set_cons_zero, List.set_cons_succ])
    refine seq_val (v := .bool true) rfl (exec_eq0 _ _ _ _ (Q3.out w11) _ _ _ rfl rfl rfl) ?_
    simp only [Act.put, List.setIfInBounds_toArray, List.set_cons_zero, List.set_cons_succ]
    first
      | (refine seq_not rfl ?_
         simp only [Act.put, List.setIfInBounds_toArray, List.set_cons_zero, List.set_cons_succ])
      | (apply seq_val rfl
         case h => (go_simp; rfl)
         simp only [Act.put, List.setIfInBounds_toArray, List.set_cons_zero, List.set_cons_succ])
    refine wpList_nil ?_
    clear cP
    go_upto_region 11 with (fail)
    go_wp2_with fail
    refine (c4 _).mono ?_
    rintro e w13 ⟨rfl, hb⟩
    replace hw_w2 := below_tr' hw_w2 hb
    clear hb
    go_wp2_with fail
    refine (c6 _).mono ?_
    rintro e w13 ⟨rfl, hb⟩
    replace hw_w2 := below_tr' hw_w2 hb
    clear hb
    go_wp2_with fail
    refine (c5 _).mono ?_
    rintro e w13 ⟨rfl, hb⟩
    replace hw_w2 := below_tr' hw_w2 hb
    clear hb
    go_wp2_with fail
    refine (z1 _).mono ?_
    rintro e w13 ⟨rfl, hb⟩
    replace hw_w2 := below_tr' hw_w2 hb
    clear hb
    go_wp2_with (first | (refine seq_val (v := .bool true) rfl (exec_eqP _ _ true _ (Q4.out _) _ _ _ rfl rfl rfl) ?_; simp only [Act.put, List.setIfInBounds_toArray, List.set_cons_zero, List.set_cons_succ]))
    refine (aw _).mono ?_
    rintro e w13 ⟨rfl, hb⟩
    replace hw_w2 := below_tr' hw_w2 hb
    clear hb
    go_wp2_with fail
    go_ret
    exact ⟨rfl, hw_w2⟩
  | false =>
    simp only [Bool.not_false, if_true] at c3
    go_wp2_with fail
    refine (c3 _).mono ?_
    rintro e w8 ⟨rfl, hb⟩
    replace hw_w2 := below_tr' hw_w2 hb
    replace hP := keep hb hP
    clear hb
    clear hst
    go_upto_region 9 with (fail)
    have lP2 := Go.Mono.lt_of_some hP
    obtain ⟨w9, hq_w9⟩ : ∃ w9, (w8.alloc (.cells #[.int .u64 (wd NX 0), .int .u64 (wd NX 1), .int .u64 (wd NX 2), .int .u64 (wd NX 3), .int .u64 (wd Y 0), .int .u64 (wd Y 1), .int .u64 (wd Y 2), .int .u64 (wd Y 3)] 28)) = w9 := ⟨_, rfl⟩
    have hR : w9.heap[w8.heap.size]? = some (.cells #[.int .u64 (wd NX 0), .int .u64 (wd NX 1), .int .u64 (wd NX 2), .int .u64 (wd NX 3), .int .u64 (wd Y 0), .int .u64 (wd Y 1), .int .u64 (wd Y 2), .int .u64 (wd Y 3)] 28) := by rw [← hq_w9]; exact hp_new _ (by simp)
    have hs_w9 : w9.heap.size = w8.heap.size + 1 := by rw [← hq_w9]; simp
    have hw_w9 : Below w8.heap.size w8 w9 := by rw [← hq_w9]; exact (Below.refl w8.heap.size w8).alloc (Nat.le_refl _) _
    rw [hq_w9]
    clear hq_w9
    replace hw_w2 := below_tr' hw_w2 hw_w9
    replace hP := keep hw_w9 hP
    clear hw_w9
    clear hs_w9
    generalize w8.heap.size = bR at *
    have cP := cell_of hP
    go_wp2_with fail
    refine (cs _).mono ?_
    rintro e w10 ⟨rfl, hb⟩
    clear cP
    replace hw_w2 := below_tr' hw_w2 hb
    replace hP := keep hb hP
    replace hR := keep hb hR
    clear hb
    go_upto_region 10 with (first | (refine wpList_store48 rfl rfl rfl rfl hP (by kernel_rfl) ?_; simp only [Act.put]))
    replace hw_w2 := st4_below (b := bP) (n := NX) hw_w2 lwP
    replace hR := st4_other (b := bP) (n := NX) hR (by clear hxv; omega)
    replace hP := st4_at8 (n := NX) hP
    generalize st4 w10 bP NX = w11 at *
    have cP := cell_of hP
    refine wp_region_lit ?_
    first
      | (refine seq_not rfl ?_
         simp only [Act.put, List.setIfInBounds_toArray, List.set_cons_zero, List.set_cons_succ])
      | (apply seq_val rfl
         case h => first | (simp [go_sem]; rfl) | (go_simp; rfl)
         simp only [Act.put, List.setIfInBounds_toArray, List.set_cons_zero, List.set_cons_succ])
    first
      | (refine seq_not rfl ?_
         simp only [Act.put, List.setIfInBounds_toArray, List.set_cons_zero, List.set_cons_succ])
      | (apply seq_val rfl
         case h => first | (simp [go_sem]; rfl) | (go_simp; rfl)
         simp only [Act.put, List.setIfInBounds_toArray, List.set_cons_zero, List.set_cons_succ])
    first
      | (refine seq_not rfl ?_
         simp only [Act.put, List.setIfInBounds_toArray, List.set_cons_zero, List.set_cons_succ])
      | (apply seq_val rfl
         case h => first | (simp [go_sem]; rfl) | (go_simp; rfl)
         simp only [Act.put, List.setIfInBounds_toArray, List.set_cons_zero, List.set_cons_succ])
    refine seq_val (v := .bool false) rfl (exec_eq0 _ _ _ _ (Q3.out w11) _ _ _ rfl rfl rfl) ?_
    simp only [Act.put, List.setIfInBounds_toArray, List.set_cons_zero, List.set_cons_succ]
    first
      | (refine seq_not rfl ?_
         simp only [Act.put, List.setIfInBounds_toArray, List.set_cons_zero, List.set_cons_succ])
      | (apply seq_val rfl
         case h => first | (simp [go_sem]; rfl) | (go_simp; rfl)
         simp only [Act.put, List.setIfInBounds_toArray, List.set_cons_zero, List.set_cons_succ])
    refine wpList_nil ?_
    clear cP
    go_upto_region 11 with (fail)
    have cP := cell_of hP
    have cR := cell_of hR
    go_wp2_with (first | (refine seq_val (v := .bool true) rfl (exec_eqP _ _ true _ (Q2.out _) _ _ _ rfl rfl rfl) ?_; simp only [Act.put, List.setIfInBounds_toArray, List.set_cons_zero, List.set_cons_succ]))
    refine (c4 _).mono ?_
    rintro e w13 ⟨rfl, hb⟩
    clear cP cR
    replace hw_w2 := below_tr' hw_w2 hb
    clear hb
    go_wp2_with fail
    refine (c6 _).mono ?_
    rintro e w13 ⟨rfl, hb⟩
    replace hw_w2 := below_tr' hw_w2 hb
    clear hb
    go_wp2_with fail
    refine (c5 _).mono ?_
    rintro e w13 ⟨rfl, hb⟩
    replace hw_w2 := below_tr' hw_w2 hb
    clear hb
    go_wp2_with fail
    refine (z1 _).mono ?_
    rintro e w13 ⟨rfl, hb⟩
    replace hw_w2 := below_tr' hw_w2 hb
    clear hb
    go_wp2_with (first | (refine seq_val (v := .bool true) rfl (exec_eqP _ _ true _ (Q4.out _) _ _ _ rfl rfl rfl) ?_; simp only [Act.put, List.setIfInBounds_toArray, List.set_cons_zero, List.set_cons_succ]))
    refine (aw _).mono ?_
    rintro e w13 ⟨rfl, hb⟩
    replace hw_w2 := below_tr' hw_w2 hb
    clear hb
    go_wp2_with fail
    go_ret
    exact ⟨rfl, hw_w2⟩
end Go.Proofs.Ytdhaedjmlddjcaa
