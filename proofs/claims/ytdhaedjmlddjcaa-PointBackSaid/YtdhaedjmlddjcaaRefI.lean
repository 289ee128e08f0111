/- r6.AddPoints, r6.MulPoint, r6.Order, r6.On: what each call comes to, for numbers below the prime. No other conditions. -/
import Derived.Test.YtdhaedjmlddjcaaRefH
namespace Go.Num
open Go Go.RowKit
theorem tri_one (x y : Nat) : tri x y 1 = .agg #[.int .u64 (wd x 0), .int .u64 (wd x 1), .int .u64 (wd x 2), .int .u64 (wd x 3), .int .u64 (wd y 0), .int .u64 (wd y 1), .int .u64 (wd y 2), .int .u64 (wd y 3), .int .u64 1, .int .u64 0, .int .u64 0, .int .u64 0] := by
  unfold tri
  rw [one_words.1, one_words.2.1, one_words.2.2.1, one_words.2.2.2]; rfl
theorem tri_free : (#[.int .u64 0, .int .u64 0, .int .u64 0, .int .u64 0, .int .u64 1, .int .u64 0, .int .u64 0, .int .u64 0, .int .u64 1, .int .u64 0, .int .u64 0, .int .u64 0] : Array Value) = #[.int .u64 (wd 0 0), .int .u64 (wd 0 1), .int .u64 (wd 0 2), .int .u64 (wd 0 3), .int .u64 (wd 1 0), .int .u64 (wd 1 1), .int .u64 (wd 1 2), .int .u64 (wd 1 3), .int .u64 (wd 1 0), .int .u64 (wd 1 1), .int .u64 (wd 1 2), .int .u64 (wd 1 3)] := by
  rw [one_words.1, one_words.2.1, one_words.2.2.1, one_words.2.2.2, wd_zero, wd_zero, wd_zero, wd_zero]; rfl
def rsum (x y u v : Nat) : T3 := plus3 dd ⟨x, y, 1⟩ ⟨u, v, 1⟩
def raddX (x y u v : Nat) : Nat := flX (rsum x y u v)
def raddY (x y u v : Nat) : Nat := flY (rsum x y u v)
def dbl3 (q o : T3) (b : Bool) : T3 := if b then plus3 dd (plus3 dd o o) q else plus3 dd o o
def mul3 (k x y : Nat) : T3 := (hiBits k 0).foldl (dbl3 ⟨x, y, 1⟩) ⟨0, 1, 1⟩
def rmulX (k x y : Nat) : Nat := flX (mul3 k x y)
def rmulY (k x y : Nat) : Nat := flY (mul3 k x y)
theorem dbl3_ok (q o : T3) (b : Bool) : (dbl3 q o b).ok := by unfold dbl3; split <;> exact plus3_ok _ _ _
theorem ok_free : (T3.mk 0 1 1).ok := ⟨by decide, by decide, by decide⟩
theorem foldl3_ok (q : T3) (l : List Bool) : (l.foldl (dbl3 q) ⟨0, 1, 1⟩).ok := by
  rcases List.eq_nil_or_concat l with rfl | ⟨l', b, rfl⟩
  · exact ok_free
  · rw [List.concat_eq_append, List.foldl_append]; exact dbl3_ok _ _ _
theorem dbl3_false (q o : T3) : dbl3 q o false = plus3 dd o o := rfl
theorem dbl3_true (q o : T3) : dbl3 q o true = plus3 dd (plus3 dd o o) q := rfl
end Go.Num
namespace Go.Proofs.Ytdhaedjmlddjcaa
open Go.RowKit Go.Mono Go.Num
set_option maxHeartbeats 1000000 in
theorem raddp_any (x y u v : Nat) (w : World) (hx : x < p) (hy : y < p) (hu : u < p) (hv : v < p) :
    Calls Try.prog 18 #[pt x y, pt u v] w fun e w' => e = .returned (pt (raddX x y u v) (raddY x y u v)) ∧ Below w.heap.size w w' := by
  have hp := fun w => plus_any ⟨x, y, 1⟩ ⟨u, v, 1⟩ dd w ⟨hx, hy, one_lt⟩ ⟨hu, hv, one_lt⟩ dd_lt
  replace hp : ∀ w, Calls Try.prog 40 #[tri x y 1, tri u v 1, num dd] w fun e w' => e = .returned (plus3 dd ⟨x, y, 1⟩ ⟨u, v, 1⟩).v ∧ Below w.heap.size w w' := hp
  rw [tri_one, tri_one] at hp
  have hfl := fun w => flat_any (rsum x y u v) w (plus3_ok _ _ _)
  replace hp : ∀ w, Calls Try.prog 40 #[.agg #[.int .u64 (wd x 0), .int .u64 (wd x 1), .int .u64 (wd x 2), .int .u64 (wd x 3), .int .u64 (wd y 0), .int .u64 (wd y 1), .int .u64 (wd y 2), .int .u64 (wd y 3), .int .u64 1, .int .u64 0, .int .u64 0, .int .u64 0], .agg #[.int .u64 (wd u 0), .int .u64 (wd u 1), .int .u64 (wd u 2), .int .u64 (wd u 3), .int .u64 (wd v 0), .int .u64 (wd v 1), .int .u64 (wd v 2), .int .u64 (wd v 3), .int .u64 1, .int .u64 0, .int .u64 0, .int .u64 0], num dd] w fun e w' => e = .returned (rsum x y u v).v ∧ Below w.heap.size w w' := hp
  replace hfl : ∀ w, Calls Try.prog 39 #[(rsum x y u v).v] w fun e w' => e = .returned (pt (raddX x y u v) (raddY x y u v)) ∧ Below w.heap.size w w' := hfl
  have Hp := Lib.hid hp
  have Hfl := Lib.hid hfl
  clear hp hfl hx hy hu hv
  generalize rsum x y u v = S at *
  generalize raddX x y u v = RX at *
  generalize raddY x y u v = RY at *
  have hD := fun w => rd_any w
  generalize dd = D at *
  go_enter Try.func18, Try.ntmps18
  go_wp2_with fail
  obtain ⟨w0, hq_w0⟩ : ∃ w0, (((w.alloc (.cells #[.int .u64 (wd x 0), .int .u64 (wd x 1), .int .u64 (wd x 2), .int .u64 (wd x 3), .int .u64 (wd y 0), .int .u64 (wd y 1), .int .u64 (wd y 2), .int .u64 (wd y 3)] 28)).alloc (.cells #[.int .u64 (wd u 0), .int .u64 (wd u 1), .int .u64 (wd u 2), .int .u64 (wd u 3), .int .u64 (wd v 0), .int .u64 (wd v 1), .int .u64 (wd v 2), .int .u64 (wd v 3)] 28)).alloc (.cells #[.int .u64 0, .int .u64 0, .int .u64 0, .int .u64 0, .int .u64 0, .int .u64 0, .int .u64 0, .int .u64 0] 28)) = w0 := ⟨_, rfl⟩
  have hA : w0.heap[w.heap.size]? = some (.cells #[.int .u64 (wd x 0), .int .u64 (wd x 1), .int .u64 (wd x 2), .int .u64 (wd x 3), .int .u64 (wd y 0), .int .u64 (wd y 1), .int .u64 (wd y 2), .int .u64 (wd y 3)] 28) := by rw [← hq_w0]; exact hp_old _ (hp_old _ (hp_new _ (by simp)))
  have hB : w0.heap[w.heap.size + 1]? = some (.cells #[.int .u64 (wd u 0), .int .u64 (wd u 1), .int .u64 (wd u 2), .int .u64 (wd u 3), .int .u64 (wd v 0), .int .u64 (wd v 1), .int .u64 (wd v 2), .int .u64 (wd v 3)] 28) := by rw [← hq_w0]; exact hp_old _ (hp_new _ (by simp))
  have hR : w0.heap[w.heap.size + 1 + 1]? = some (.cells #[.int .u64 0, .int .u64 0, .int .u64 0, .int .u64 0, .int .u64 0, .int .u64 0, .int .u64 0, .int .u64 0] 28) := by rw [← hq_w0]; exact hp_new _ (by simp)
  have hs_w0 : w0.heap.size = w.heap.size + 3 := by rw [← hq_w0]; simp
  have hw_w0 : Below w.heap.size w w0 := by rw [← hq_w0]; exact (((Below.refl w.heap.size w).alloc (Nat.le_refl _) _).alloc (by simp) _).alloc (by simp; omega) _
  rw [hq_w0]
  clear hq_w0
  clear hs_w0
  refine wp_region_mono 15 15 [] (fun _ => default) (by kernel_rfl) (by kernel_rfl) (fun _ _ _ _ _ h => h) ?_
  simp only [List.take_succ_cons, List.take_zero, List.drop_succ_cons, List.drop_zero]
  repeat (first
    | (apply head_pure rfl rfl rfl
       case h => (intro w1; go_simp; rfl)
       simp only [Act.put, List.setIfInBounds_toArray, List.set_cons_zero, List.set_cons_succ])
    | (apply head_val rfl rfl rfl rfl
       case h => (intro w1 hC; have cA := cell_of (keep hC (hp_drew hA)); have cB := cell_of (keep hC (hp_drew hB)); clear hC; go_simp; rfl)
       simp only [Act.put, List.setIfInBounds_toArray, List.set_cons_zero, List.set_cons_succ]))
  refine head_call rfl rfl rfl rfl (fun w1 hC => by first | (go_simp; done) | (go_simp; rfl)) (fun w1 hC => hD w1) ?_
  simp only [Act.put, List.setIfInBounds_toArray, List.set_cons_zero, List.set_cons_succ]
  refine head_call rfl rfl rfl rfl (fun w1 hC => by first | (go_simp; done) | (go_simp; rfl)) (fun w1 hC => Hp.out w1) ?_
  simp only [Act.put, List.setIfInBounds_toArray, List.set_cons_zero, List.set_cons_succ]
  refine head_call rfl rfl rfl rfl (fun w1 hC => by first | (go_simp; done) | (go_simp; rfl)) (fun w1 hC => Hfl.out w1) ?_
  simp only [Act.put, List.setIfInBounds_toArray, List.set_cons_zero, List.set_cons_succ]
  refine head_nil ?_
  intro w3 hC _
  replace hw_w0 := below_tr hw_w0 hC
  replace hR := keep hC (hp_drew hR)
  clear hC
  refine wpList_storeBlk 8 rfl rfl rfl rfl hR rfl rfl (by kernel_rfl) (by kernel_rfl) ?_
  intro w4 s4
  simp only [Act.put]
  replace hw_w0 := s4.below hw_w0 (by omega)
  replace hR := s4.at_
  clear s4
  go_wp2_with fail
  exact bodyPost_ret (results_blk Try.results18 rfl hR Try.underlying28 rfl (by kernel_rfl)) rfl ⟨rfl, hw_w0⟩
set_option maxHeartbeats 1000000 in
theorem rmulp_any (k x y : Nat) (w : World) (hx : x < p) (hy : y < p) :
    Calls Try.prog 19 #[num k, pt x y] w fun e w' => e = .returned (pt (rmulX k x y) (rmulY k x y)) ∧ Below w.heap.size w w' := by
  have Hq := Lib.hid (T3.ok.mk hx hy one_lt : (T3.mk x y 1).ok)
  have hD := fun w => rd_any w
  have hfl := fun w => flat_any (mul3 k x y) w (foldl3_ok _ _)
  replace hfl : ∀ w, Calls Try.prog 39 #[(mul3 k x y).v] w fun e w' => e = .returned (pt (rmulX k x y) (rmulY k x y)) ∧ Below w.heap.size w w' := hfl
  have Hfl := Lib.hid hfl
  have Hlast := Lib.hid (show (hiBits k 0).foldl (dbl3 ⟨x, y, 1⟩) ⟨0, 1, 1⟩ = mul3 k x y from rfl)
  clear hfl hx hy
  generalize rmulX k x y = RX at *
  generalize rmulY k x y = RY at *
  generalize mul3 k x y = M3 at *
  go_enter Try.func19, Try.ntmps19
  go_wp2_with fail
  obtain ⟨w0, hq_w0⟩ : ∃ w0, (((w.alloc (.cells #[.int .u64 (wd k 0), .int .u64 (wd k 1), .int .u64 (wd k 2), .int .u64 (wd k 3)] 26)).alloc (.cells #[.int .u64 (wd x 0), .int .u64 (wd x 1), .int .u64 (wd x 2), .int .u64 (wd x 3), .int .u64 (wd y 0), .int .u64 (wd y 1), .int .u64 (wd y 2), .int .u64 (wd y 3)] 28)).alloc (.cells #[.int .u64 0, .int .u64 0, .int .u64 0, .int .u64 0, .int .u64 0, .int .u64 0, .int .u64 0, .int .u64 0] 28)) = w0 := ⟨_, rfl⟩
  have hK : w0.heap[w.heap.size]? = some (.cells #[.int .u64 (wd k 0), .int .u64 (wd k 1), .int .u64 (wd k 2), .int .u64 (wd k 3)] 26) := by rw [← hq_w0]; exact hp_old _ (hp_old _ (hp_new _ (by simp)))
  have hA : w0.heap[w.heap.size + 1]? = some (.cells #[.int .u64 (wd x 0), .int .u64 (wd x 1), .int .u64 (wd x 2), .int .u64 (wd x 3), .int .u64 (wd y 0), .int .u64 (wd y 1), .int .u64 (wd y 2), .int .u64 (wd y 3)] 28) := by rw [← hq_w0]; exact hp_old _ (hp_new _ (by simp))
  have hR : w0.heap[w.heap.size + 1 + 1]? = some (.cells #[.int .u64 0, .int .u64 0, .int .u64 0, .int .u64 0, .int .u64 0, .int .u64 0, .int .u64 0, .int .u64 0] 28) := by rw [← hq_w0]; exact hp_new _ (by simp)
  have hs_w0 : w0.heap.size = w.heap.size + 3 := by rw [← hq_w0]; simp
  have hw_w0 : Below w.heap.size w w0 := by rw [← hq_w0]; exact (((Below.refl w.heap.size w).alloc (Nat.le_refl _) _).alloc (by simp) _).alloc (by simp; omega) _
  rw [hq_w0]
  clear hq_w0
  clear hs_w0
  refine (hD _).mono ?_
  rintro e w1 ⟨rfl, hb⟩
  replace hw_w0 := below_tr' hw_w0 hb
  replace hK := keep hb hK
  replace hA := keep hb hA
  replace hR := keep hb hR
  clear hb
  go_wp2_with fail
  have lR := Go.Mono.lt_of_some hR
  obtain ⟨w2, hq_w2⟩ : ∃ w2, (w1.alloc (.cells #[.int .u64 (wd dd 0), .int .u64 (wd dd 1), .int .u64 (wd dd 2), .int .u64 (wd dd 3)] 26)) = w2 := ⟨_, rfl⟩
  have hDD : w2.heap[w1.heap.size]? = some (.cells #[.int .u64 (wd dd 0), .int .u64 (wd dd 1), .int .u64 (wd dd 2), .int .u64 (wd dd 3)] 26) := by rw [← hq_w2]; exact hp_new _ (by simp)
  have hs_w2 : w2.heap.size = w1.heap.size + 1 := by rw [← hq_w2]; simp
  have hw_w2 : Below w1.heap.size w1 w2 := by rw [← hq_w2]; exact (Below.refl w1.heap.size w1).alloc (Nat.le_refl _) _
  rw [hq_w2]
  clear hq_w2
  replace hw_w0 := below_tr' hw_w0 hw_w2
  replace hK := keep hw_w2 hK
  replace hA := keep hw_w2 hA
  replace hR := keep hw_w2 hR
  clear hw_w2
  clear hs_w2
  generalize w1.heap.size = bD at *
  have lz := Go.Mono.lt_of_some (hp_drew hDD)
  have hl2 : w.heap.size ≤ w2.heap.size := hw_w0.size
  replace lz : bD < w2.heap.size := lz
  have c0 := fun o => cell_of (hp_drew hA) o
  have c1 := fun o1 o => cell_of (hp_drew (hp_old o1 hA)) o
  have c2 := fun o1 o2 o => cell_of (hp_drew (hp_old o2 (hp_old o1 hA))) o
  go_region
  all_goals first
    | (have hK5 := hp_drew (hp_old (.cells #[.int .u64 (wd x 0), .int .u64 (wd x 1), .int .u64 (wd x 2), .int .u64 (wd x 3), .int .u64 (wd y 0), .int .u64 (wd y 1), .int .u64 (wd y 2), .int .u64 (wd y 3), .int .u64 1, .int .u64 0, .int .u64 0, .int .u64 0] 68) (hp_old (.cells #[.int .u64 0, .int .u64 0, .int .u64 0, .int .u64 0, .int .u64 1, .int .u64 0, .int .u64 0, .int .u64 0, .int .u64 1, .int .u64 0, .int .u64 0, .int .u64 0] 68) hK))
       have hR5 := hp_drew (hp_old (.cells #[.int .u64 (wd x 0), .int .u64 (wd x 1), .int .u64 (wd x 2), .int .u64 (wd x 3), .int .u64 (wd y 0), .int .u64 (wd y 1), .int .u64 (wd y 2), .int .u64 (wd y 3), .int .u64 1, .int .u64 0, .int .u64 0, .int .u64 0] 68) (hp_old (.cells #[.int .u64 0, .int .u64 0, .int .u64 0, .int .u64 0, .int .u64 1, .int .u64 0, .int .u64 0, .int .u64 0, .int .u64 1, .int .u64 0, .int .u64 0, .int .u64 0] 68) hR))
       have hD5 := hp_drew (hp_old (.cells #[.int .u64 (wd x 0), .int .u64 (wd x 1), .int .u64 (wd x 2), .int .u64 (wd x 3), .int .u64 (wd y 0), .int .u64 (wd y 1), .int .u64 (wd y 2), .int .u64 (wd y 3), .int .u64 1, .int .u64 0, .int .u64 0, .int .u64 0] 68) (hp_old (.cells #[.int .u64 0, .int .u64 0, .int .u64 0, .int .u64 0, .int .u64 1, .int .u64 0, .int .u64 0, .int .u64 0, .int .u64 1, .int .u64 0, .int .u64 0, .int .u64 0] 68) hDD))
       have hn_bO := hp_drew (hp_old (.cells #[.int .u64 (wd x 0), .int .u64 (wd x 1), .int .u64 (wd x 2), .int .u64 (wd x 3), .int .u64 (wd y 0), .int .u64 (wd y 1), .int .u64 (wd y 2), .int .u64 (wd y 3), .int .u64 1, .int .u64 0, .int .u64 0, .int .u64 0] 68) (hp_new (w := w2) (.cells #[.int .u64 0, .int .u64 0, .int .u64 0, .int .u64 0, .int .u64 1, .int .u64 0, .int .u64 0, .int .u64 0, .int .u64 1, .int .u64 0, .int .u64 0, .int .u64 0] 68) rfl))
       have hn_bQ := hp_drew (hp_new (w := w2.alloc (.cells #[.int .u64 0, .int .u64 0, .int .u64 0, .int .u64 0, .int .u64 1, .int .u64 0, .int .u64 0, .int .u64 0, .int .u64 1, .int .u64 0, .int .u64 0, .int .u64 0] 68)) (b := w2.heap.size + 1) (.cells #[.int .u64 (wd x 0), .int .u64 (wd x 1), .int .u64 (wd x 2), .int .u64 (wd x 3), .int .u64 (wd y 0), .int .u64 (wd y 1), .int .u64 (wd y 2), .int .u64 (wd y 3), .int .u64 1, .int .u64 0, .int .u64 0, .int .u64 0] 68) (by simp))
       have hw5 := ((hw_w0.alloc hl2 (.cells #[.int .u64 0, .int .u64 0, .int .u64 0, .int .u64 0, .int .u64 1, .int .u64 0, .int .u64 0, .int .u64 0, .int .u64 1, .int .u64 0, .int .u64 0, .int .u64 0] 68)).alloc (by simp; omega) (.cells #[.int .u64 (wd x 0), .int .u64 (wd x 1), .int .u64 (wd x 2), .int .u64 (wd x 3), .int .u64 (wd y 0), .int .u64 (wd y 1), .int .u64 (wd y 2), .int .u64 (wd y 3), .int .u64 1, .int .u64 0, .int .u64 0, .int .u64 0] 68)).drew
       clear c0 c1 c2 hK hR hDD hA hw_w0
       obtain ⟨w5, hg5⟩ : ∃ w5, ((w2.alloc (.cells #[.int .u64 0, .int .u64 0, .int .u64 0, .int .u64 0, .int .u64 1, .int .u64 0, .int .u64 0, .int .u64 0, .int .u64 1, .int .u64 0, .int .u64 0, .int .u64 0] 68)).alloc (.cells #[.int .u64 (wd x 0), .int .u64 (wd x 1), .int .u64 (wd x 2), .int .u64 (wd x 3), .int .u64 (wd y 0), .int .u64 (wd y 1), .int .u64 (wd y 2), .int .u64 (wd y 3), .int .u64 1, .int .u64 0, .int .u64 0, .int .u64 0] 68)).drew = w5 := ⟨_, rfl⟩
       rw [hg5] at hK5 hR5 hD5 hn_bO hn_bQ hw5 ⊢
       clear hg5
       obtain ⟨bQ, hbQ⟩ : ∃ bQ, w2.heap.size + 1 = bQ := ⟨_, rfl⟩
       obtain ⟨bO, hbO⟩ : ∃ bO, w2.heap.size = bO := ⟨_, rfl⟩
       have hne : bQ ≠ bO := by omega
       have lO : bD < bO := by omega
       have lQ : bD < bQ := by omega
       rw [hbQ] at hn_bQ ⊢
       rw [hbO] at hn_bO ⊢
       clear hbQ hbO lz hl2)
    | (have hK5 := hp_drew (hp_old (.cells #[.int .u64 0, .int .u64 0, .int .u64 0, .int .u64 0, .int .u64 1, .int .u64 0, .int .u64 0, .int .u64 0, .int .u64 1, .int .u64 0, .int .u64 0, .int .u64 0] 68) (hp_old (.cells #[.int .u64 (wd x 0), .int .u64 (wd x 1), .int .u64 (wd x 2), .int .u64 (wd x 3), .int .u64 (wd y 0), .int .u64 (wd y 1), .int .u64 (wd y 2), .int .u64 (wd y 3), .int .u64 1, .int .u64 0, .int .u64 0, .int .u64 0] 68) hK))
       have hR5 := hp_drew (hp_old (.cells #[.int .u64 0, .int .u64 0, .int .u64 0, .int .u64 0, .int .u64 1, .int .u64 0, .int .u64 0, .int .u64 0, .int .u64 1, .int .u64 0, .int .u64 0, .int .u64 0] 68) (hp_old (.cells #[.int .u64 (wd x 0), .int .u64 (wd x 1), .int .u64 (wd x 2), .int .u64 (wd x 3), .int .u64 (wd y 0), .int .u64 (wd y 1), .int .u64 (wd y 2), .int .u64 (wd y 3), .int .u64 1, .int .u64 0, .int .u64 0, .int .u64 0] 68) hR))
       have hD5 := hp_drew (hp_old (.cells #[.int .u64 0, .int .u64 0, .int .u64 0, .int .u64 0, .int .u64 1, .int .u64 0, .int .u64 0, .int .u64 0, .int .u64 1, .int .u64 0, .int .u64 0, .int .u64 0] 68) (hp_old (.cells #[.int .u64 (wd x 0), .int .u64 (wd x 1), .int .u64 (wd x 2), .int .u64 (wd x 3), .int .u64 (wd y 0), .int .u64 (wd y 1), .int .u64 (wd y 2), .int .u64 (wd y 3), .int .u64 1, .int .u64 0, .int .u64 0, .int .u64 0] 68) hDD))
       have hn_bQ := hp_drew (hp_old (.cells #[.int .u64 0, .int .u64 0, .int .u64 0, .int .u64 0, .int .u64 1, .int .u64 0, .int .u64 0, .int .u64 0, .int .u64 1, .int .u64 0, .int .u64 0, .int .u64 0] 68) (hp_new (w := w2) (.cells #[.int .u64 (wd x 0), .int .u64 (wd x 1), .int .u64 (wd x 2), .int .u64 (wd x 3), .int .u64 (wd y 0), .int .u64 (wd y 1), .int .u64 (wd y 2), .int .u64 (wd y 3), .int .u64 1, .int .u64 0, .int .u64 0, .int .u64 0] 68) rfl))
       have hn_bO := hp_drew (hp_new (w := w2.alloc (.cells #[.int .u64 (wd x 0), .int .u64 (wd x 1), .int .u64 (wd x 2), .int .u64 (wd x 3), .int .u64 (wd y 0), .int .u64 (wd y 1), .int .u64 (wd y 2), .int .u64 (wd y 3), .int .u64 1, .int .u64 0, .int .u64 0, .int .u64 0] 68)) (b := w2.heap.size + 1) (.cells #[.int .u64 0, .int .u64 0, .int .u64 0, .int .u64 0, .int .u64 1, .int .u64 0, .int .u64 0, .int .u64 0, .int .u64 1, .int .u64 0, .int .u64 0, .int .u64 0] 68) (by simp))
       have hw5 := ((hw_w0.alloc hl2 (.cells #[.int .u64 (wd x 0), .int .u64 (wd x 1), .int .u64 (wd x 2), .int .u64 (wd x 3), .int .u64 (wd y 0), .int .u64 (wd y 1), .int .u64 (wd y 2), .int .u64 (wd y 3), .int .u64 1, .int .u64 0, .int .u64 0, .int .u64 0] 68)).alloc (by simp; omega) (.cells #[.int .u64 0, .int .u64 0, .int .u64 0, .int .u64 0, .int .u64 1, .int .u64 0, .int .u64 0, .int .u64 0, .int .u64 1, .int .u64 0, .int .u64 0, .int .u64 0] 68)).drew
       clear c0 c1 c2 hK hR hDD hA hw_w0
       obtain ⟨w5, hg5⟩ : ∃ w5, ((w2.alloc (.cells #[.int .u64 (wd x 0), .int .u64 (wd x 1), .int .u64 (wd x 2), .int .u64 (wd x 3), .int .u64 (wd y 0), .int .u64 (wd y 1), .int .u64 (wd y 2), .int .u64 (wd y 3), .int .u64 1, .int .u64 0, .int .u64 0, .int .u64 0] 68)).alloc (.cells #[.int .u64 0, .int .u64 0, .int .u64 0, .int .u64 0, .int .u64 1, .int .u64 0, .int .u64 0, .int .u64 0, .int .u64 1, .int .u64 0, .int .u64 0, .int .u64 0] 68)).drew = w5 := ⟨_, rfl⟩
       rw [hg5] at hK5 hR5 hD5 hn_bO hn_bQ hw5 ⊢
       clear hg5
       obtain ⟨bO, hbO⟩ : ∃ bO, w2.heap.size + 1 = bO := ⟨_, rfl⟩
       obtain ⟨bQ, hbQ⟩ : ∃ bQ, w2.heap.size = bQ := ⟨_, rfl⟩
       have hne : bQ ≠ bO := by omega
       have lO : bD < bO := by omega
       have lQ : bD < bQ := by omega
       rw [hbO] at hn_bO ⊢
       rw [hbQ] at hn_bQ ⊢
       clear hbO hbQ lz hl2)
  all_goals
    rw [tri_free] at hn_bO
    have hQ1 : w5.heap[bQ]? = some (.cells #[.int .u64 (wd x 0), .int .u64 (wd x 1), .int .u64 (wd x 2), .int .u64 (wd x 3), .int .u64 (wd y 0), .int .u64 (wd y 1), .int .u64 (wd y 2), .int .u64 (wd y 3), .int .u64 (wd 1 0), .int .u64 (wd 1 1), .int .u64 (wd 1 2), .int .u64 (wd 1 3)] 68) := by
      rw [one_words.1, one_words.2.1, one_words.2.2.1, one_words.2.2.2]; exact hn_bQ
    clear hn_bQ hD
    go_wp2_with fail
    go_loopw [8] (fun vi wr => ∃ (m : Nat) (o : T3), m ≤ 256 ∧ vi = .int .i64 ((m : Int) - 1) ∧ (o.ok ∧ (hiBits k m).foldl (dbl3 ⟨x, y, 1⟩) ⟨0, 1, 1⟩ = o) ∧ wr.heap[w.heap.size]? = some (.cells (cells4 k) 26) ∧ wr.heap[w.heap.size + 2]? = some (.cells #[.int .u64 0, .int .u64 0, .int .u64 0, .int .u64 0, .int .u64 0, .int .u64 0, .int .u64 0, .int .u64 0] 28) ∧ wr.heap[bD]? = some (.cells (cells4 dd) 26) ∧ wr.heap[bO]? = some (.cells #[.int .u64 (wd (o.x) 0), .int .u64 (wd (o.x) 1), .int .u64 (wd (o.x) 2), .int .u64 (wd (o.x) 3), .int .u64 (wd (o.y) 0), .int .u64 (wd (o.y) 1), .int .u64 (wd (o.y) 2), .int .u64 (wd (o.y) 3), .int .u64 (wd (o.z) 0), .int .u64 (wd (o.z) 1), .int .u64 (wd (o.z) 2), .int .u64 (wd (o.z) 3)] 68) ∧ wr.heap[bQ]? = some (.cells #[.int .u64 (wd x 0), .int .u64 (wd x 1), .int .u64 (wd x 2), .int .u64 (wd x 3), .int .u64 (wd y 0), .int .u64 (wd y 1), .int .u64 (wd y 2), .int .u64 (wd y 3), .int .u64 (wd 1 0), .int .u64 (wd 1 1), .int .u64 (wd 1 2), .int .u64 (wd 1 3)] 68) ∧ Below w.heap.size w wr) (fun vi _ => (intOf vi + 1).toNat)
    case atStart => exact ⟨256, ⟨0, 1, 1⟩, by omega, rfl, ⟨ok_free, rfl⟩, hK5, hR5, hD5, hn_bO, hQ1, hw5⟩
    case round =>
      clear hK5 hR5 hD5 hn_bO hQ1 hw5
      obtain ⟨m, o, hm, rfl, ⟨hok, hfo⟩, hK, hR, hD, hO, hQ, hw⟩ := hrel
      have Hok := Lib.hid hok
      have Hfo := Lib.hid hfo
      clear hok hfo
      cases m with
      | zero =>
        have Hm := Lib.hid (Hfo.out.symm.trans Hlast.out)
        have cO := cell_of hO
        have hfl := Hfl.out
        rw [← Hm.out] at hfl
        have Hfl2 := Lib.hid hfl
        clear hfl
        go_wp2_with fail
        refine (Hfl2.out _).mono ?_
        rintro e w6 ⟨rfl, hb⟩
        clear cO
        replace hw := below_tr' hw hb
        replace hR := keep hb hR
        clear hb
        rename_i hK_; refine hK_ _ _ ?_; clear hK_
        refine wpList_storeBlk 8 rfl rfl rfl rfl hR rfl rfl (by kernel_rfl) (by kernel_rfl) ?_
        intro w7 s7
        simp only [Act.put]
        replace hw := s7.below hw (by omega)
        replace hR := s7.at_
        clear s7
        go_wp2_with fail
        exact bodyPost_ret (results_blk Try.results19 rfl hR Try.underlying28 rfl (by kernel_rfl)) rfl ⟨rfl, hw⟩
      | succ i =>
        rw [show ((i + 1 : Nat) : Int) - 1 = i by omega]
        have hst : (hiBits k i).foldl (dbl3 ⟨x, y, 1⟩) ⟨0, 1, 1⟩ = dbl3 ⟨x, y, 1⟩ o (k.testBit i) := by rw [hiBits_step k i (by omega), List.foldl_append, Hfo.out]; rfl
        have Hst := Lib.hid hst
        clear hst
        have cO := cell_of hO
        have cD := cell4 hD
        have hbit := bit_walk1 k i
        have hi : i / 64 < 4 := by omega
        have hi' : ((i : Int) / 64) < 4 := by omega
        go_wp2_with fail
        refine (plus_any o o dd _ Hok.out Hok.out dd_lt).mono ?_
        rintro e w1 ⟨rfl, hb⟩
        clear cO cD
        replace hw := below_tr' hw hb
        replace hK := keep hb hK
        replace hR := keep hb hR
        replace hD := keep hb hD
        replace hO := keep hb hO
        replace hQ := keep hb hQ
        clear hb
        rename_i hK_; refine hK_ _ _ ?_; clear hK_
        refine wpList_storeBlk 12 rfl rfl rfl rfl hO rfl rfl (by kernel_rfl) (by kernel_rfl) ?_
        intro w2 s2
        simp only [Act.put]
        replace hw := s2.below hw (by omega)
        replace hK := s2.other hK (by omega)
        replace hR := s2.other hR (by omega)
        replace hD := s2.other hD (by omega)
        replace hQ := s2.other hQ (by omega)
        replace hO := s2.at_
        clear s2
        have cK := cell4 hK (i / 64) hi
        have Hok2 := Lib.hid (plus3_ok dd o o)
        cases hbx : k.testBit i with
        | false =>
          rw [hbx] at hbit Hst
          go_wp2_with fail
          go_roundw
          case rel => exact ⟨i, plus3 dd o o, by omega, rfl, ⟨Hok2.out, Hst.out⟩, hK, hR, hD, hO, hQ, hw⟩
          case measure => simp [intOf]
        | true =>
          rw [hbx] at hbit Hst
          have cQ := cell_of hQ
          have cD := cell4 hD
          obtain ⟨o2, ho2⟩ : ∃ o2, plus3 dd o o = o2 := ⟨_, rfl⟩
          have Ho2 := Lib.hid ho2
          rw [ho2] at hO Hok2
          clear ho2
          have cO := cell_of hO
          go_wp2_with fail
          refine (plus_any o2 ⟨x, y, 1⟩ dd _ Hok2.out Hq.out dd_lt).mono ?_
          rintro e w3 ⟨rfl, hb⟩
          clear cO cQ cD cK
          replace hw := below_tr' hw hb
          replace hK := keep hb hK
          replace hR := keep hb hR
          replace hD := keep hb hD
          replace hO := keep hb hO
          replace hQ := keep hb hQ
          clear hb
          rename_i hK_; refine hK_ _ _ ?_; clear hK_
          refine wpList_storeBlk 12 rfl rfl rfl rfl hO rfl rfl (by kernel_rfl) (by kernel_rfl) ?_
          intro w4 s4
          simp only [Act.put]
          replace hw := s4.below hw (by omega)
          replace hK := s4.other hK (by omega)
          replace hR := s4.other hR (by omega)
          replace hD := s4.other hD (by omega)
          replace hQ := s4.other hQ (by omega)
          replace hO := s4.at_
          clear s4
          have Hok4 := Lib.hid (plus3_ok dd o2 ⟨x, y, 1⟩)
          go_wp2_with fail
          go_roundw
          case rel => exact ⟨i, plus3 dd o2 ⟨x, y, 1⟩, by omega, rfl, ⟨Hok4.out, by rw [Hst.out, dbl3_true, Ho2.out]⟩, hK, hR, hD, hO, hQ, hw⟩
          case measure => simp [intOf]
end Go.Proofs.Ytdhaedjmlddjcaa
