/- law8.PointAll: whatever the numbers and the bytes, it returns true. No conditions beyond the sizes. -/
import Derived.Test.YtdhaedjmlddjcaaSpot
import Derived.Test.YtdhaedjmlddjcaaAwake
namespace Go.Num
open Go Go.RowKit
/-- The bytes of a text, by their places. -/
def byOf (s : ByteArray) (j : Nat) : Nat := if h : j < s.size then (s[j]'h).toNat else 0
theorem byOf_lt (s : ByteArray) (j : Nat) : byOf s j < 256 := by
  unfold byOf
  split
  · exact (s[j]).toNat_lt
  · decide
theorem bstr_byOf (s : ByteArray) : bstr (byOf s) s.size = s := by
  apply ByteArray.ext
  apply Array.ext_getElem?
  intro j
  show ((btext (byOf s) s.size).toArray)[j]? = s.data[j]?
  unfold btext
  by_cases hj : j < s.size
  · have hj2 : j < s.data.size := hj
    simp [hj, byOf]
    rfl
  · have hj2 : ¬ j < s.data.size := hj
    rw [Array.getElem?_eq_none (by simp; omega), Array.getElem?_eq_none (by omega)]
end Go.Num
namespace Go.Proofs.Ytdhaedjmlddjcaa
open Go.RowKit Go.Mono Go.Num
theorem exec_eqP (a b : Array Value) (Z : Bool) (w : World) (h : (Op.equalIn 10000 28 (.agg a) (.agg b)).run Try.prog w = .ok Z w) {o : Oper} {ρ : Operand → Value} (x y : Operand) (t : TypeId)
    (ho : o.op = .binOp .eql 28 x y t) (hx : ρ x = .agg a) (hy : ρ y = .agg b) : (execOp ρ o).run Try.prog w = .ok (.value (.bool Z)) w := by
  unfold execOp
  rw [ho]
  simp only [hx, hy]
  have h2 := run_eql_struct (P := Try.prog) w 28 a b
  rw [h] at h2
  clear h hx hy ho
  generalize binOp .eql 28 (.agg a) (.agg b) = B at *
  simp [go_sem]
  rw [h2]; rfl
theorem eqN_self (a : Nat) : eqN a a = true := by unfold eqN; exact decide_eq_true rfl
theorem eq_pt_self (x y : Nat) (w : World) (hx : x < W ^ 4) (hy : y < W ^ 4) : (Op.equalIn 10000 28 (pt x y) (pt x y)).run Try.prog w = .ok true w := by
  rw [eq_pt x y x y w hx hy hx hy, eqN_self, eqN_self]; rfl
set_option maxHeartbeats 400000 in
theorem pfrom_short2 (s : ByteArray) (w : World) (h : s.size ≠ 32) :
    Calls Try.prog 23 #[.string s] w fun e w' => e = .returned (.tuple #[pt 0 0, .bool false]) ∧ Below w.heap.size w w' := by
  have hd : decide ((s.size : Int) = 32) = false := by simp; omega
  have h2 : ¬ (s.size : Int) = 32 := by omega
  go_enter Try.func23, Try.ntmps23
  go_wp2_with fail
  exact bodyPost_ret (v := .tuple #[pt 0 0, .bool false]) (results2_blk Try.results23 rfl rfl (hp_new (w := w) _ rfl) Try.underlying28 rfl (by kernel_rfl)) rfl ⟨rfl, (Below.refl _ _).alloc (Nat.le_refl _) _⟩
/-- The program's From and the reference's say the same of any text. -/
theorem from_both (s : ByteArray) : ∃ (X Y : Nat) (O : Bool), X < W ^ 4 ∧ Y < W ^ 4 ∧
    (∀ w, Calls Try.prog 23 #[.string s] w fun e w' => e = .returned (.tuple #[pt X Y, .bool O]) ∧ Below w.heap.size w w') ∧
    (∀ w, Calls Try.prog 24 #[.string s] w fun e w' => e = .returned (spotv X Y O) ∧ Below w.heap.size w w') := by
  by_cases hs : s.size = 32
  · have hb := bstr_byOf s
    rw [hs] at hb
    have hf := byOf_lt s
    obtain ⟨h1, h2⟩ := spot_same (byOf s) hf
    have hp := fun w => pfrom_any (byOf s) w hf
    have hr := fun w => rfrom_any (byOf s) w hf
    rw [h1, hb] at hp
    rw [hb] at hr
    cases hO : rfOk (byOf s) with
    | true =>
      obtain ⟨h3, h4⟩ := h2 hO
      rw [hO, if_pos rfl, if_pos rfl] at hp hr
      rw [h3, h4] at hp
      exact ⟨_, _, _, by rw [← h3]; exact lt_W (fromX_lt _), low_W _, hp, hr⟩
    | false =>
      rw [hO, if_neg Bool.false_ne_true, if_neg Bool.false_ne_true] at hp hr
      exact ⟨0, 0, false, by decide, by decide, hp, hr⟩
  · exact ⟨0, 0, false, by decide, by decide, fun w => pfrom_short2 s w hs, fun w => rfrom_short s w hs⟩
set_option maxHeartbeats 2000000 in
theorem all_any (x y : Nat) (s : ByteArray) (w : World) (hx : x < W ^ 4) (hy : y < W ^ 4) :
    Calls Try.prog 7 #[pt x y, .string s] w fun e w' => e = .returned (.bool true) ∧ Below w.heap.size w w' := by
  have haw := fun w => awake_any w
  by_cases hs : 60 < s.size
  · have hs' : (60 : Int) < (s.size : Int) := by omega
    go_enter Try.func7, Try.ntmps7
    go_wp2_with fail
    obtain ⟨w0, hq_w0⟩ : ∃ w0, (w.alloc (.cells #[.int .u64 (wd x 0), .int .u64 (wd x 1), .int .u64 (wd x 2), .int .u64 (wd x 3), .int .u64 (wd y 0), .int .u64 (wd y 1), .int .u64 (wd y 2), .int .u64 (wd y 3)] 28)) = w0 := ⟨_, rfl⟩
    have hP : w0.heap[w.heap.size]? = some (.cells #[.int .u64 (wd x 0), .int .u64 (wd x 1), .int .u64 (wd x 2), .int .u64 (wd x 3), .int .u64 (wd y 0), .int .u64 (wd y 1), .int .u64 (wd y 2), .int .u64 (wd y 3)] 28) := by rw [← hq_w0]; exact hp_new _ (by simp)
    have hs_w0 : w0.heap.size = w.heap.size + 1 := by rw [← hq_w0]; simp
    have hw_w0 : Below w.heap.size w w0 := by rw [← hq_w0]; exact (Below.refl w.heap.size w).alloc (Nat.le_refl _) _
    rw [hq_w0]
    clear hq_w0
    refine (haw _).mono ?_
    rintro e w1 ⟨rfl, hb⟩
    replace hw_w0 := below_tr' hw_w0 hb
    clear hb
    go_wp2_with fail
    go_ret
    exact ⟨rfl, hw_w0⟩
  · have hs' : ¬ (60 : Int) < (s.size : Int) := by omega
    obtain ⟨X, Y, O, hX, hY, hf, hr⟩ := from_both s
    have heq := fun w => eq_pt_self X Y w hX hY
    have hbe := fun w => eq_pt_self baseX baseY w (lt_W base_lt.1) (lt_W base_lt.2)
    have hon := fun w => on_any x y w hx hy
    have hro := fun w => ron_any x y w hx hy
    have hba := fun w => base_any w
    have hrb := fun w => rbase_any w
    generalize onB x y = B at *
    generalize baseX = BX at *
    generalize baseY = BY at *
    clear hX hY hx hy
    have Heq := Lib.hid heq
    have Hbe := Lib.hid hbe
    clear heq hbe
    go_enter Try.func7, Try.ntmps7
    go_wp2_with fail
    obtain ⟨w0, hq_w0⟩ : ∃ w0, (w.alloc (.cells #[.int .u64 (wd x 0), .int .u64 (wd x 1), .int .u64 (wd x 2), .int .u64 (wd x 3), .int .u64 (wd y 0), .int .u64 (wd y 1), .int .u64 (wd y 2), .int .u64 (wd y 3)] 28)) = w0 := ⟨_, rfl⟩
    have hP : w0.heap[w.heap.size]? = some (.cells #[.int .u64 (wd x 0), .int .u64 (wd x 1), .int .u64 (wd x 2), .int .u64 (wd x 3), .int .u64 (wd y 0), .int .u64 (wd y 1), .int .u64 (wd y 2), .int .u64 (wd y 3)] 28) := by rw [← hq_w0]; exact hp_new _ (by simp)
    have hs_w0 : w0.heap.size = w.heap.size + 1 := by rw [← hq_w0]; simp
    have hw_w0 : Below w.heap.size w w0 := by rw [← hq_w0]; exact (Below.refl w.heap.size w).alloc (Nat.le_refl _) _
    rw [hq_w0]
    clear hq_w0
    clear hs_w0
    refine (hf _).mono ?_
    rintro e w1 ⟨rfl, hb⟩
    replace hw_w0 := below_tr' hw_w0 hb
    replace hP := keep hb hP
    clear hb
    go_wp2_with fail
    have lP := Go.Mono.lt_of_some hP
    obtain ⟨w2, hq_w2⟩ : ∃ w2, (w1.alloc (.cells #[.int .u64 (wd X 0), .int .u64 (wd X 1), .int .u64 (wd X 2), .int .u64 (wd X 3), .int .u64 (wd Y 0), .int .u64 (wd Y 1), .int .u64 (wd Y 2), .int .u64 (wd Y 3)] 28)) = w2 := ⟨_, rfl⟩
    have hQ : w2.heap[w1.heap.size]? = some (.cells #[.int .u64 (wd X 0), .int .u64 (wd X 1), .int .u64 (wd X 2), .int .u64 (wd X 3), .int .u64 (wd Y 0), .int .u64 (wd Y 1), .int .u64 (wd Y 2), .int .u64 (wd Y 3)] 28) := by rw [← hq_w2]; exact hp_new _ (by simp)
    have hs_w2 : w2.heap.size = w1.heap.size + 1 := by rw [← hq_w2]; simp
    have hw_w2 : Below w1.heap.size w1 w2 := by rw [← hq_w2]; exact (Below.refl w1.heap.size w1).alloc (Nat.le_refl _) _
    rw [hq_w2]
    clear hq_w2
    replace hw_w0 := below_tr' hw_w0 hw_w2
    replace hP := keep hw_w2 hP
    clear hw_w2
    clear hs_w2
    generalize w1.heap.size = bQ at *
    refine (hr _).mono ?_
    rintro e w3 ⟨rfl, hb⟩
    replace hw_w0 := below_tr' hw_w0 hb
    replace hP := keep hb hP
    replace hQ := keep hb hQ
    clear hb
    go_wp2_with fail
    have lQ := Go.Mono.lt_of_some hQ
    obtain ⟨w4, hq_w4⟩ : ∃ w4, (w3.alloc (.cells #[.int .u64 (wd X 0), .int .u64 (wd X 1), .int .u64 (wd X 2), .int .u64 (wd X 3), .int .u64 (wd Y 0), .int .u64 (wd Y 1), .int .u64 (wd Y 2), .int .u64 (wd Y 3), .bool O] 46)) = w4 := ⟨_, rfl⟩
    have hS : w4.heap[w3.heap.size]? = some (.cells #[.int .u64 (wd X 0), .int .u64 (wd X 1), .int .u64 (wd X 2), .int .u64 (wd X 3), .int .u64 (wd Y 0), .int .u64 (wd Y 1), .int .u64 (wd Y 2), .int .u64 (wd Y 3), .bool O] 46) := by rw [← hq_w4]; exact hp_new _ (by simp)
    have hs_w4 : w4.heap.size = w3.heap.size + 1 := by rw [← hq_w4]; simp
    have hw_w4 : Below w3.heap.size w3 w4 := by rw [← hq_w4]; exact (Below.refl w3.heap.size w3).alloc (Nat.le_refl _) _
    rw [hq_w4]
    clear hq_w4
    replace hw_w0 := below_tr' hw_w0 hw_w4
    replace hP := keep hw_w4 hP
    replace hQ := keep hw_w4 hQ
    clear hw_w4
    clear hs_w4
    generalize w3.heap.size = bS at *
    refine wp_region_calm (by kernel_rfl) (by kernel_rfl) ?_
    first
      | (refine calm_not rfl ?_
         simp only [Act.put, List.setIfInBounds_toArray, List.set_cons_zero, List.set_cons_succ])
      | (apply calm_pure rfl
         case h => (intro w1; go_simp; rfl)
         simp only [Act.put, List.setIfInBounds_toArray, List.set_cons_zero, List.set_cons_succ])
      | (apply calm_val rfl
         case h => (intro w1 hC; have cP := cell_of (keep hC (hp_drew hP)); clear hC; go_simp; rfl)
         simp only [Act.put, List.setIfInBounds_toArray, List.set_cons_zero, List.set_cons_succ])
    refine calm_call rfl (fun w1 hC => by first | (go_simp; done) | (go_simp; rfl)) (fun w1 hC => hon w1) ?_
    simp only [Act.put, List.setIfInBounds_toArray, List.set_cons_zero, List.set_cons_succ]
    first
      | (refine calm_not rfl ?_
         simp only [Act.put, List.setIfInBounds_toArray, List.set_cons_zero, List.set_cons_succ])
      | (apply calm_pure rfl
         case h => (intro w1; go_simp; rfl)
         simp only [Act.put, List.setIfInBounds_toArray, List.set_cons_zero, List.set_cons_succ])
      | (apply calm_val rfl
         case h => (intro w1 hC; have cP := cell_of (keep hC (hp_drew hP)); clear hC; go_simp; rfl)
         simp only [Act.put, List.setIfInBounds_toArray, List.set_cons_zero, List.set_cons_succ])
    refine calm_call rfl (fun w1 hC => by first | (go_simp; done) | (go_simp; rfl)) (fun w1 hC => hro w1) ?_
    simp only [Act.put, List.setIfInBounds_toArray, List.set_cons_zero, List.set_cons_succ]
    first
      | (refine calm_not rfl ?_
         simp only [Act.put, List.setIfInBounds_toArray, List.set_cons_zero, List.set_cons_succ])
      | (apply calm_pure rfl
         case h => (intro w1; go_simp; rfl)
         simp only [Act.put, List.setIfInBounds_toArray, List.set_cons_zero, List.set_cons_succ])
      | (apply calm_val rfl
         case h => (intro w1 hC; have cQ := cell_of (keep hC (hp_drew hQ)); have cS := cell_of (keep hC (hp_drew hS)); clear hC; go_simp; rfl)
         simp only [Act.put, List.setIfInBounds_toArray, List.set_cons_zero, List.set_cons_succ])
    first
      | (refine calm_not rfl ?_
         simp only [Act.put, List.setIfInBounds_toArray, List.set_cons_zero, List.set_cons_succ])
      | (apply calm_pure rfl
         case h => (intro w1; go_simp; rfl)
         simp only [Act.put, List.setIfInBounds_toArray, List.set_cons_zero, List.set_cons_succ])
      | (apply calm_val rfl
         case h => (intro w1 hC; have cQ := cell_of (keep hC (hp_drew hQ)); have cS := cell_of (keep hC (hp_drew hS)); clear hC; go_simp; rfl)
         simp only [Act.put, List.setIfInBounds_toArray, List.set_cons_zero, List.set_cons_succ])
    first
      | (refine calm_not rfl ?_
         simp only [Act.put, List.setIfInBounds_toArray, List.set_cons_zero, List.set_cons_succ])
      | (apply calm_pure rfl
         case h => (intro w1; go_simp; rfl)
         simp only [Act.put, List.setIfInBounds_toArray, List.set_cons_zero, List.set_cons_succ])
      | (apply calm_val rfl
         case h => (intro w1 hC; have cQ := cell_of (keep hC (hp_drew hQ)); have cS := cell_of (keep hC (hp_drew hS)); clear hC; go_simp; rfl)
         simp only [Act.put, List.setIfInBounds_toArray, List.set_cons_zero, List.set_cons_succ])
    first
      | (refine calm_not rfl ?_
         simp only [Act.put, List.setIfInBounds_toArray, List.set_cons_zero, List.set_cons_succ])
      | (apply calm_pure rfl
         case h => (intro w1; go_simp; rfl)
         simp only [Act.put, List.setIfInBounds_toArray, List.set_cons_zero, List.set_cons_succ])
      | (apply calm_val rfl
         case h => (intro w1 hC; have cQ := cell_of (keep hC (hp_drew hQ)); have cS := cell_of (keep hC (hp_drew hS)); clear hC; go_simp; rfl)
         simp only [Act.put, List.setIfInBounds_toArray, List.set_cons_zero, List.set_cons_succ])
    first
      | (refine calm_not rfl ?_
         simp only [Act.put, List.setIfInBounds_toArray, List.set_cons_zero, List.set_cons_succ])
      | (apply calm_pure rfl
         case h => (intro w1; go_simp; rfl)
         simp only [Act.put, List.setIfInBounds_toArray, List.set_cons_zero, List.set_cons_succ])
      | (apply calm_val rfl
         case h => (intro w1 hC; have cQ := cell_of (keep hC (hp_drew hQ)); have cS := cell_of (keep hC (hp_drew hS)); clear hC; go_simp; rfl)
         simp only [Act.put, List.setIfInBounds_toArray, List.set_cons_zero, List.set_cons_succ])
    refine calm_val (v := .bool true) rfl (fun w1 hC => exec_eqP _ _ true w1 (Heq.out w1) _ _ _ rfl rfl rfl) ?_
    simp only [Act.put, List.setIfInBounds_toArray, List.set_cons_zero, List.set_cons_succ]
    first
      | (refine calm_not rfl ?_
         simp only [Act.put, List.setIfInBounds_toArray, List.set_cons_zero, List.set_cons_succ])
      | (apply calm_pure rfl
         case h => (intro w1; go_simp; rfl)
         simp only [Act.put, List.setIfInBounds_toArray, List.set_cons_zero, List.set_cons_succ])
      | (apply calm_val rfl
         case h => (intro w1 hC; have cS := cell_of (keep hC (hp_drew hS)); clear hC; go_simp; rfl)
         simp only [Act.put, List.setIfInBounds_toArray, List.set_cons_zero, List.set_cons_succ])
    first
      | (refine calm_not rfl ?_
         simp only [Act.put, List.setIfInBounds_toArray, List.set_cons_zero, List.set_cons_succ])
      | (apply calm_pure rfl
         case h => (intro w1; go_simp; rfl)
         simp only [Act.put, List.setIfInBounds_toArray, List.set_cons_zero, List.set_cons_succ])
      | (apply calm_val rfl
         case h => (intro w1 hC; have cS := cell_of (keep hC (hp_drew hS)); clear hC; go_simp; rfl)
         simp only [Act.put, List.setIfInBounds_toArray, List.set_cons_zero, List.set_cons_succ])
    first
      | (refine calm_not rfl ?_
         simp only [Act.put, List.setIfInBounds_toArray, List.set_cons_zero, List.set_cons_succ])
      | (apply calm_pure rfl
         case h => (intro w1; go_simp; rfl)
         simp only [Act.put, List.setIfInBounds_toArray, List.set_cons_zero, List.set_cons_succ])
      | (apply calm_val rfl
         case h => (intro w1 hC; have cS := cell_of (keep hC (hp_drew hS)); clear hC; go_simp; rfl)
         simp only [Act.put, List.setIfInBounds_toArray, List.set_cons_zero, List.set_cons_succ])
    first
      | (refine calm_not rfl ?_
         simp only [Act.put, List.setIfInBounds_toArray, List.set_cons_zero, List.set_cons_succ])
      | (apply calm_pure rfl
         case h => (intro w1; go_simp; rfl)
         simp only [Act.put, List.setIfInBounds_toArray, List.set_cons_zero, List.set_cons_succ])
      | (apply calm_val rfl
         case h => (intro w1 hC; have cS := cell_of (keep hC (hp_drew hS)); clear hC; go_simp; rfl)
         simp only [Act.put, List.setIfInBounds_toArray, List.set_cons_zero, List.set_cons_succ])
    first
      | (refine calm_not rfl ?_
         simp only [Act.put, List.setIfInBounds_toArray, List.set_cons_zero, List.set_cons_succ])
      | (apply calm_pure rfl
         case h => (intro w1; go_simp; rfl)
         simp only [Act.put, List.setIfInBounds_toArray, List.set_cons_zero, List.set_cons_succ])
      | (apply calm_val rfl
         case h => (intro w1 hC; have cS := cell_of (keep hC (hp_drew hS)); clear hC; go_simp; rfl)
         simp only [Act.put, List.setIfInBounds_toArray, List.set_cons_zero, List.set_cons_succ])
    first
      | (refine calm_not rfl ?_
         simp only [Act.put, List.setIfInBounds_toArray, List.set_cons_zero, List.set_cons_succ])
      | (apply calm_pure rfl
         case h => (intro w1; go_simp; rfl)
         simp only [Act.put, List.setIfInBounds_toArray, List.set_cons_zero, List.set_cons_succ])
      | (apply calm_val rfl
         case h => (intro w1 hC; have cS := cell_of (keep hC (hp_drew hS)); clear hC; go_simp; rfl)
         simp only [Act.put, List.setIfInBounds_toArray, List.set_cons_zero, List.set_cons_succ])
    first
      | (refine calm_not rfl ?_
         simp only [Act.put, List.setIfInBounds_toArray, List.set_cons_zero, List.set_cons_succ])
      | (apply calm_pure rfl
         case h => (intro w1; go_simp; rfl)
         simp only [Act.put, List.setIfInBounds_toArray, List.set_cons_zero, List.set_cons_succ])
      | (apply calm_val rfl
         case h => (intro w1 hC; have cS := cell_of (keep hC (hp_drew hS)); clear hC; go_simp; rfl)
         simp only [Act.put, List.setIfInBounds_toArray, List.set_cons_zero, List.set_cons_succ])
    first
      | (refine calm_not rfl ?_
         simp only [Act.put, List.setIfInBounds_toArray, List.set_cons_zero, List.set_cons_succ])
      | (apply calm_pure rfl
         case h => (intro w1; go_simp; rfl)
         simp only [Act.put, List.setIfInBounds_toArray, List.set_cons_zero, List.set_cons_succ])
      | (apply calm_val rfl
         case h => (intro w1 hC; have cS := cell_of (keep hC (hp_drew hS)); clear hC; go_simp; rfl)
         simp only [Act.put, List.setIfInBounds_toArray, List.set_cons_zero, List.set_cons_succ])
    refine calm_call rfl (fun w1 hC => by first | (go_simp; done) | (go_simp; rfl)) (fun w1 hC => hba w1) ?_
    simp only [Act.put, List.setIfInBounds_toArray, List.set_cons_zero, List.set_cons_succ]
    refine calm_call rfl (fun w1 hC => by first | (go_simp; done) | (go_simp; rfl)) (fun w1 hC => hrb w1) ?_
    simp only [Act.put, List.setIfInBounds_toArray, List.set_cons_zero, List.set_cons_succ]
    refine calm_val (v := .bool true) rfl (fun w1 hC => exec_eqP _ _ true w1 (Hbe.out w1) _ _ _ rfl rfl rfl) ?_
    simp only [Act.put, List.setIfInBounds_toArray, List.set_cons_zero, List.set_cons_succ]
    first
      | (refine calm_not rfl ?_
         simp only [Act.put, List.setIfInBounds_toArray, List.set_cons_zero, List.set_cons_succ])
      | (apply calm_pure rfl
         case h => (intro w1; go_simp; rfl)
         simp only [Act.put, List.setIfInBounds_toArray, List.set_cons_zero, List.set_cons_succ])
    first
      | (refine calm_not rfl ?_
         simp only [Act.put, List.setIfInBounds_toArray, List.set_cons_zero, List.set_cons_succ])
      | (apply calm_pure rfl
         case h => (intro w1; go_simp; rfl)
         simp only [Act.put, List.setIfInBounds_toArray, List.set_cons_zero, List.set_cons_succ])
    refine calm_call rfl (fun w1 hC => by first | (go_simp; done) | (go_simp; rfl)) (fun w1 hC => haw w1) ?_
    simp only [Act.put, List.setIfInBounds_toArray, List.set_cons_zero, List.set_cons_succ]
    first
      | (refine calm_not rfl ?_
         simp only [Act.put, List.setIfInBounds_toArray, List.set_cons_zero, List.set_cons_succ])
      | (apply calm_pure rfl
         case h => (intro w1; go_simp; rfl)
         simp only [Act.put, List.setIfInBounds_toArray, List.set_cons_zero, List.set_cons_succ])
    first
      | (refine calm_not rfl ?_
         simp only [Act.put, List.setIfInBounds_toArray, List.set_cons_zero, List.set_cons_succ])
      | (apply calm_pure rfl
         case h => (intro w1; go_simp; rfl)
         simp only [Act.put, List.setIfInBounds_toArray, List.set_cons_zero, List.set_cons_succ])
    refine wpQuiet_nil ?_
    intro w5 hC
    replace hw_w0 := below_tr hw_w0 hC
    clear hC
    go_wp2_with fail
    go_ret
    exact ⟨rfl, hw_w0⟩
end Go.Proofs.Ytdhaedjmlddjcaa
