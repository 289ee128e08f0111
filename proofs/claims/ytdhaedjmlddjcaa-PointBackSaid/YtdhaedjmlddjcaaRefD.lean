/- r6.Add, r6.Sub, r6.Pow, r6.Inv: what each call comes to, for numbers of 256 bits. No other conditions. -/
import Derived.Test.YtdhaedjmlddjcaaRefC
namespace Go.Num
open Go Go.RowKit
theorem bit_walk1 (n i : Nat) : (bits .and .u64 ((wd n (i / 64) : Int) / 2 ^ (i % 64)) 1 == 1) = n.testBit i := by
  have h1 : ((wd n (i / 64) : Int) / 2 ^ (i % 64)) = ((wd n (i / 64) / 2 ^ (i % 64) : Nat) : Int) := by rw [Int.natCast_ediv, Int.natCast_pow]; rfl
  rw [h1, and1 _ (Nat.lt_of_le_of_lt (Nat.div_le_self _ _) (wd_lt _ _)), ← bit_word]
  generalize wd n (i / 64) / 2 ^ (i % 64) = y
  rcases (show y % 2 = 0 ∨ y % 2 = 1 by omega) with h | h <;> simp [h]
end Go.Num
namespace Go.Proofs.Ytdhaedjmlddjcaa
open Go.RowKit Go.Mono Go.Num
set_option maxHeartbeats 400000 in
theorem radd_any (a b : Nat) (w : World) (ha : a < W ^ 4) (hb : b < W ^ 4) :
    Calls Try.prog 43 #[num a, num b] w fun e w' => e = .returned (num (fadd a b)) ∧ Below w.heap.size w w' := by
  have ha' := fnorm_lt a
  have hb' := fnorm_lt b
  have hs : fnorm a + fnorm b < W ^ 4 := Nat.lt_trans (show _ < 2 * p by omega) twop_lt
  have hfin : fnorm (fnorm a + fnorm b) = fadd a b := (Nat.add_mod a b p).symm
  have Hs := Lib.hid hs
  have Hfin := Lib.hid hfin
  have Ha := Lib.hid ha
  have Hb := Lib.hid hb
  have hadd := fun w => addnum_any (fnorm a) (fnorm b) w
  rw [Nat.mod_eq_of_lt hs] at hadd
  have Hadd := Lib.hid hadd
  clear ha' hb' hs hfin ha hb hadd
  go_enter Try.func43, Try.ntmps43
  go_wp2_with fail
  obtain ⟨w0, hq_w0⟩ : ∃ w0, (((w.alloc (.cells #[.int .u64 (wd a 0), .int .u64 (wd a 1), .int .u64 (wd a 2), .int .u64 (wd a 3)] 26)).alloc (.cells #[.int .u64 (wd b 0), .int .u64 (wd b 1), .int .u64 (wd b 2), .int .u64 (wd b 3)] 26)).alloc (.cells #[.int .u64 0, .int .u64 0, .int .u64 0, .int .u64 0] 26)) = w0 := ⟨_, rfl⟩
  have hA : w0.heap[w.heap.size]? = some (.cells #[.int .u64 (wd a 0), .int .u64 (wd a 1), .int .u64 (wd a 2), .int .u64 (wd a 3)] 26) := by rw [← hq_w0]; exact hp_old _ (hp_old _ (hp_new _ (by simp)))
  have hB : w0.heap[w.heap.size + 1]? = some (.cells #[.int .u64 (wd b 0), .int .u64 (wd b 1), .int .u64 (wd b 2), .int .u64 (wd b 3)] 26) := by rw [← hq_w0]; exact hp_old _ (hp_new _ (by simp))
  have hR : w0.heap[w.heap.size + 1 + 1]? = some (.cells #[.int .u64 0, .int .u64 0, .int .u64 0, .int .u64 0] 26) := by rw [← hq_w0]; exact hp_new _ (by simp)
  have hs_w0 : w0.heap.size = w.heap.size + 3 := by rw [← hq_w0]; simp
  have hw_w0 : Below w.heap.size w w0 := by rw [← hq_w0]; exact (((Below.refl w.heap.size w).alloc (Nat.le_refl _) _).alloc (by simp) _).alloc (by simp; omega) _
  rw [hq_w0]
  clear hq_w0
  clear hs_w0
  refine (rnorm_any a _ Ha.out).mono ?_
  rintro e w1 ⟨rfl, hb⟩
  replace hw_w0 := below_tr' hw_w0 hb
  replace hA := keep hb hA
  replace hB := keep hb hB
  replace hR := keep hb hR
  clear hb
  rename_i hK_; refine hK_ _ _ ?_; clear hK_
  refine wpList_storeBlk 4 rfl rfl rfl rfl hA rfl rfl (by kernel_rfl) (by kernel_rfl) ?_
  intro w2 s2
  simp only [Act.put]
  replace hw_w0 := s2.below hw_w0 (by omega)
  replace hB := s2.other hB (by omega)
  replace hR := s2.other hR (by omega)
  replace hA := s2.at_
  clear s2
  have cB := cell4 hB
  go_wp2_with fail
  refine (rnorm_any b _ Hb.out).mono ?_
  rintro e w3 ⟨rfl, hb⟩
  clear cB
  replace hw_w0 := below_tr' hw_w0 hb
  replace hA := keep hb hA
  replace hB := keep hb hB
  replace hR := keep hb hR
  clear hb
  rename_i hK_; refine hK_ _ _ ?_; clear hK_
  refine wpList_storeBlk 4 rfl rfl rfl rfl hB rfl rfl (by kernel_rfl) (by kernel_rfl) ?_
  intro w4 s4
  simp only [Act.put]
  replace hw_w0 := s4.below hw_w0 (by omega)
  replace hA := s4.other hA (by omega)
  replace hR := s4.other hR (by omega)
  replace hB := s4.at_
  clear s4
  have cA := cell4 hA
  have cB := cell4 hB
  go_wp2_with fail
  refine (Hadd.out _).mono ?_
  rintro e w5 ⟨rfl, hb⟩
  clear cA cB hA hB
  replace hw_w0 := below_tr' hw_w0 hb
  replace hR := keep hb hR
  clear hb
  go_wp2_with fail
  have lz := hw_w0.size
  have hR2 := hp_old (.cells #[.int .u64 (wd (fnorm a + fnorm b) 0), .int .u64 (wd (fnorm a + fnorm b) 1), .int .u64 (wd (fnorm a + fnorm b) 2), .int .u64 (wd (fnorm a + fnorm b) 3)] 26) hR
  have hw2 := hw_w0.alloc (by omega) (.cells #[.int .u64 (wd (fnorm a + fnorm b) 0), .int .u64 (wd (fnorm a + fnorm b) 1), .int .u64 (wd (fnorm a + fnorm b) 2), .int .u64 (wd (fnorm a + fnorm b) 3)] 26)
  clear hR hw_w0 lz
  generalize w5.alloc (.cells #[.int .u64 (wd (fnorm a + fnorm b) 0), .int .u64 (wd (fnorm a + fnorm b) 1), .int .u64 (wd (fnorm a + fnorm b) 2), .int .u64 (wd (fnorm a + fnorm b) 3)] 26) = w6 at *
  refine (rnorm_any (fnorm a + fnorm b) _ Hs.out).mono ?_
  rw [Hfin.out]
  rintro e w7 ⟨rfl, hb⟩
  replace hw2 := below_tr' hw2 hb
  replace hR2 := keep hb hR2
  clear hb
  rename_i hK_; refine hK_ _ _ ?_; clear hK_
  refine wpList_storeBlk 4 rfl rfl rfl rfl hR2 rfl rfl (by kernel_rfl) (by kernel_rfl) ?_
  intro w8 s8
  simp only [Act.put]
  go_wp2_with fail
  exact bodyPost_ret (results_blk Try.results43 rfl s8.at_ Try.underlying26 rfl (by kernel_rfl)) rfl ⟨rfl, s8.below hw2 (by omega)⟩
set_option maxHeartbeats 400000 in
theorem rsub_any (a b : Nat) (w : World) (ha : a < W ^ 4) (hb : b < W ^ 4) :
    Calls Try.prog 21 #[num a, num b] w fun e w' => e = .returned (num (fsub a b)) ∧ Below w.heap.size w w' := by
  have hs : sub256 p (fnorm b) = p - fnorm b := sub256_ge p_lt (Nat.le_of_lt (fnorm_lt b))
  have hl : p - fnorm b < W ^ 4 := Nat.lt_of_le_of_lt (by omega) p_lt
  have hfin : fadd a (p - fnorm b) = fsub a b := rfl
  have Hfin := Lib.hid hfin
  have Hs := Lib.hid hs
  have Hl := Lib.hid hl
  have Ha := Lib.hid ha
  have Hb := Lib.hid hb
  clear hs hl hfin ha hb
  go_enter Try.func21, Try.ntmps21
  go_wp2_with fail
  obtain ⟨w0, hq_w0⟩ : ∃ w0, (((w.alloc (.cells #[.int .u64 (wd a 0), .int .u64 (wd a 1), .int .u64 (wd a 2), .int .u64 (wd a 3)] 26)).alloc (.cells #[.int .u64 (wd b 0), .int .u64 (wd b 1), .int .u64 (wd b 2), .int .u64 (wd b 3)] 26)).alloc (.cells #[.int .u64 0, .int .u64 0, .int .u64 0, .int .u64 0] 26)) = w0 := ⟨_, rfl⟩
  have hA : w0.heap[w.heap.size]? = some (.cells #[.int .u64 (wd a 0), .int .u64 (wd a 1), .int .u64 (wd a 2), .int .u64 (wd a 3)] 26) := by rw [← hq_w0]; exact hp_old _ (hp_old _ (hp_new _ (by simp)))
  have hB : w0.heap[w.heap.size + 1]? = some (.cells #[.int .u64 (wd b 0), .int .u64 (wd b 1), .int .u64 (wd b 2), .int .u64 (wd b 3)] 26) := by rw [← hq_w0]; exact hp_old _ (hp_new _ (by simp))
  have hR : w0.heap[w.heap.size + 1 + 1]? = some (.cells #[.int .u64 0, .int .u64 0, .int .u64 0, .int .u64 0] 26) := by rw [← hq_w0]; exact hp_new _ (by simp)
  have hs_w0 : w0.heap.size = w.heap.size + 3 := by rw [← hq_w0]; simp
  have hw_w0 : Below w.heap.size w w0 := by rw [← hq_w0]; exact (((Below.refl w.heap.size w).alloc (Nat.le_refl _) _).alloc (by simp) _).alloc (by simp; omega) _
  rw [hq_w0]
  clear hq_w0
  clear hs_w0
  refine wp_region_mono 6 6 [] (fun _ => default) (by kernel_rfl) (by kernel_rfl) (fun _ _ _ _ _ h => h) ?_
  simp only [List.take_succ_cons, List.take_zero, List.drop_succ_cons, List.drop_zero]
  repeat (first
    | (apply head_pure rfl rfl rfl
       case h => (intro w1; go_simp; rfl)
       simp only [Act.put, List.setIfInBounds_toArray, List.set_cons_zero, List.set_cons_succ])
    | (apply head_val rfl rfl rfl rfl
       case h => (intro w1 hC; have cA := cell4 (keep hC (hp_drew hA)); have cB := cell4 (keep hC (hp_drew hB)); clear hC; go_simp; rfl)
       simp only [Act.put, List.setIfInBounds_toArray, List.set_cons_zero, List.set_cons_succ]))
  refine head_call rfl rfl rfl rfl (fun w1 hC => by first | (go_simp; done) | (go_simp; rfl)) (fun w1 hC => rprime_any w1) ?_
  simp only [Act.put, List.setIfInBounds_toArray, List.set_cons_zero, List.set_cons_succ]
  repeat (first
    | (apply head_pure rfl rfl rfl
       case h => (intro w1; go_simp; rfl)
       simp only [Act.put, List.setIfInBounds_toArray, List.set_cons_zero, List.set_cons_succ])
    | (apply head_val rfl rfl rfl rfl
       case h => (intro w1 hC; have cA := cell4 (keep hC (hp_drew hA)); have cB := cell4 (keep hC (hp_drew hB)); clear hC; go_simp; rfl)
       simp only [Act.put, List.setIfInBounds_toArray, List.set_cons_zero, List.set_cons_succ]))
  refine head_call rfl rfl rfl rfl (fun w1 hC => by first | (go_simp; done) | (go_simp; rfl)) (fun w1 hC => rnorm_any b w1 Hb.out) ?_
  simp only [Act.put, List.setIfInBounds_toArray, List.set_cons_zero, List.set_cons_succ]
  refine head_call rfl rfl rfl rfl (fun w1 hC => by first | (go_simp; done) | (go_simp; rfl)) (fun w1 hC => subnum_any p (fnorm b) w1) ?_
  simp only [Act.put, List.setIfInBounds_toArray, List.set_cons_zero, List.set_cons_succ]
  rw [Hs.out]
  refine head_call rfl rfl rfl rfl (fun w1 hC => by first | (go_simp; done) | (go_simp; rfl)) (fun w1 hC => radd_any a (p - fnorm b) w1 Ha.out Hl.out) ?_
  simp only [Act.put, List.setIfInBounds_toArray, List.set_cons_zero, List.set_cons_succ]
  rw [Hfin.out]
  refine head_nil ?_
  intro w3 hC _
  replace hw_w0 := below_tr hw_w0 hC
  replace hR := keep hC (hp_drew hR)
  clear hC
  refine wpList_storeBlk 4 rfl rfl rfl rfl hR rfl rfl (by kernel_rfl) (by kernel_rfl) ?_
  intro w4 s4
  simp only [Act.put]
  go_wp2_with fail
  exact bodyPost_ret (results_blk Try.results21 rfl s4.at_ Try.underlying26 rfl (by kernel_rfl)) rfl ⟨rfl, s4.below hw_w0 (by omega)⟩
set_option maxHeartbeats 1000000 in
theorem rpow_any (a n : Nat) (w : World) (ha : a < W ^ 4) :
    Calls Try.prog 61 #[num a, num n] w fun e w' => e = .returned (num (powF a n)) ∧ Below w.heap.size w w' := by
  have Ha := Lib.hid ha
  clear ha
  go_enter Try.func61, Try.ntmps61
  go_wp2_with fail
  obtain ⟨w0, hq_w0⟩ : ∃ w0, ((((w.alloc (.cells #[.int .u64 (wd a 0), .int .u64 (wd a 1), .int .u64 (wd a 2), .int .u64 (wd a 3)] 26)).alloc (.cells #[.int .u64 (wd n 0), .int .u64 (wd n 1), .int .u64 (wd n 2), .int .u64 (wd n 3)] 26)).alloc (.cells #[.int .u64 0, .int .u64 0, .int .u64 0, .int .u64 0] 26)).alloc (.cells #[.int .u64 1, .int .u64 0, .int .u64 0, .int .u64 0] 26)) = w0 := ⟨_, rfl⟩
  have hA : w0.heap[w.heap.size]? = some (.cells #[.int .u64 (wd a 0), .int .u64 (wd a 1), .int .u64 (wd a 2), .int .u64 (wd a 3)] 26) := by rw [← hq_w0]; exact hp_old _ (hp_old _ (hp_old _ (hp_new _ (by simp))))
  have hN : w0.heap[w.heap.size + 1]? = some (.cells #[.int .u64 (wd n 0), .int .u64 (wd n 1), .int .u64 (wd n 2), .int .u64 (wd n 3)] 26) := by rw [← hq_w0]; exact hp_old _ (hp_old _ (hp_new _ (by simp)))
  have hR : w0.heap[w.heap.size + 1 + 1]? = some (.cells #[.int .u64 0, .int .u64 0, .int .u64 0, .int .u64 0] 26) := by rw [← hq_w0]; exact hp_old _ (hp_new _ (by simp))
  have hO : w0.heap[w.heap.size + 1 + 1 + 1]? = some (.cells #[.int .u64 1, .int .u64 0, .int .u64 0, .int .u64 0] 26) := by rw [← hq_w0]; exact hp_new _ (by simp)
  have hs_w0 : w0.heap.size = w.heap.size + 4 := by rw [← hq_w0]; simp
  have hw_w0 : Below w.heap.size w w0 := by rw [← hq_w0]; exact ((((Below.refl w.heap.size w).alloc (Nat.le_refl _) _).alloc (by simp) _).alloc (by simp; omega) _).alloc (by simp; omega) _
  rw [hq_w0]
  clear hq_w0
  rw [← cells4_one] at hO
  go_loopw [6] (fun vi wr => ∃ m : Nat, m ≤ 256 ∧ vi = .int .i64 ((m : Int) - 1) ∧ wr.heap[w.heap.size]? = some (.cells (cells4 a) 26) ∧ wr.heap[w.heap.size + 1]? = some (.cells (cells4 n) 26) ∧ wr.heap[w.heap.size + 1 + 1]? = some (.cells #[.int .u64 0, .int .u64 0, .int .u64 0, .int .u64 0] 26) ∧ wr.heap[w.heap.size + 1 + 1 + 1]? = some (.cells (cells4 ((hiBits n m).foldl (sqm a) 1)) 26) ∧ Below w.heap.size w wr) (fun vi _ => (intOf vi + 1).toNat)
  case atStart => exact ⟨256, by omega, rfl, hA, hN, hR, hO, hw_w0⟩
  case round =>
    clear hA hN hR hO hw_w0 hs_w0
    obtain ⟨m, hm, rfl, hA, hN, hR, hO, hw⟩ := hrel
    cases m with
    | zero =>
      rw [show (hiBits n 0).foldl (sqm a) 1 = powF a n from rfl] at hO
      have cO := cell4 hO
      go_wp2_with (first | (refine wpList_storeBlk 4 rfl rfl rfl rfl hR rfl rfl (by kernel_rfl) (by kernel_rfl) ?_; intro w6 s6; simp only [Act.put]))
      exact bodyPost_ret (results_blk Try.results61 rfl s6.at_ Try.underlying26 rfl (by kernel_rfl)) rfl ⟨rfl, s6.below hw (by omega)⟩
    | succ i =>
      rw [show ((i + 1 : Nat) : Int) - 1 = i by omega]
      have Hol := Lib.hid (lt_W (foldl_lt a (hiBits n (i + 1))))
      have hst : (hiBits n i).foldl (sqm a) 1 = sqm a ((hiBits n (i + 1)).foldl (sqm a) 1) (n.testBit i) := by rw [hiBits_step n i (by omega), List.foldl_append]; rfl
      have Hst := Lib.hid hst
      clear hst
      generalize (hiBits n (i + 1)).foldl (sqm a) 1 = o at *
      have cO := cell4 hO
      have hbit := bit_walk1 n i
      have hi : i / 64 < 4 := by omega
      have hi' : ((i : Int) / 64) < 4 := by omega
      go_wp2_with fail
      refine (rmulf_any o o _ Hol.out Hol.out).mono ?_
      rintro e w1 ⟨rfl, hb⟩
      clear cO
      replace hw := below_tr' hw hb
      replace hA := keep hb hA
      replace hN := keep hb hN
      replace hR := keep hb hR
      replace hO := keep hb hO
      clear hb
      rename_i hK_; refine hK_ _ _ ?_; clear hK_
      refine wpList_storeBlk 4 rfl rfl rfl rfl hO rfl rfl (by kernel_rfl) (by kernel_rfl) ?_
      intro w2 s2
      simp only [Act.put]
      replace hw := s2.below hw (by omega)
      replace hA := s2.other hA (by omega)
      replace hN := s2.other hN (by omega)
      replace hR := s2.other hR (by omega)
      replace hO := s2.at_
      clear s2
      have cN := cell4 hN (i / 64) hi
      have Hq := Lib.hid (lt_W (fmul_lt o o))
      cases hx : n.testBit i with
      | false =>
        rw [hx] at hbit Hst
        go_wp2_with fail
        go_roundw
        case rel => exact ⟨i, by omega, rfl, hA, hN, hR, by rw [Hst.out]; exact hO, hw⟩
        case measure => simp [intOf]
      | true =>
        rw [hx] at hbit Hst
        have cA := cell4 hA
        have cO := cell4 hO
        go_wp2_with fail
        refine (rmulf_any (fmul o o) a _ Hq.out Ha.out).mono ?_
        rintro e w3 ⟨rfl, hb⟩
        clear cO cA cN
        replace hw := below_tr' hw hb
        replace hA := keep hb hA
        replace hN := keep hb hN
        replace hR := keep hb hR
        replace hO := keep hb hO
        clear hb
        rename_i hK_; refine hK_ _ _ ?_; clear hK_
        refine wpList_storeBlk 4 rfl rfl rfl rfl hO rfl rfl (by kernel_rfl) (by kernel_rfl) ?_
        intro w4 s4
        simp only [Act.put]
        replace hw := s4.below hw (by omega)
        replace hA := s4.other hA (by omega)
        replace hN := s4.other hN (by omega)
        replace hR := s4.other hR (by omega)
        replace hO := s4.at_
        clear s4
        go_wp2_with fail
        go_roundw
        case rel => exact ⟨i, by omega, rfl, hA, hN, hR, by rw [Hst.out]; exact hO, hw⟩
        case measure => simp [intOf]
set_option maxHeartbeats 400000 in
theorem rinv_any (a : Nat) (w : World) (ha : a < W ^ 4) :
    Calls Try.prog 52 #[num a] w fun e w' => e = .returned (num (finv a)) ∧ Below w.heap.size w w' := by
  have Ha := Lib.hid ha
  clear ha
  have hl := fun w' => subnum_any p 2 w'
  rw [num_two, sub_two] at hl
  have Hl := Lib.hid hl
  clear hl
  go_enter Try.func52, Try.ntmps52
  go_wp2_with fail
  obtain ⟨w0, hq_w0⟩ : ∃ w0, ((w.alloc (.cells #[.int .u64 (wd a 0), .int .u64 (wd a 1), .int .u64 (wd a 2), .int .u64 (wd a 3)] 26)).alloc (.cells #[.int .u64 0, .int .u64 0, .int .u64 0, .int .u64 0] 26)) = w0 := ⟨_, rfl⟩
  have hA : w0.heap[w.heap.size]? = some (.cells #[.int .u64 (wd a 0), .int .u64 (wd a 1), .int .u64 (wd a 2), .int .u64 (wd a 3)] 26) := by rw [← hq_w0]; exact hp_old _ (hp_new _ (by simp))
  have hR : w0.heap[w.heap.size + 1]? = some (.cells #[.int .u64 0, .int .u64 0, .int .u64 0, .int .u64 0] 26) := by rw [← hq_w0]; exact hp_new _ (by simp)
  have hs_w0 : w0.heap.size = w.heap.size + 2 := by rw [← hq_w0]; simp
  have hw_w0 : Below w.heap.size w w0 := by rw [← hq_w0]; exact ((Below.refl w.heap.size w).alloc (Nat.le_refl _) _).alloc (by simp) _
  rw [hq_w0]
  clear hq_w0
  clear hs_w0
  refine wp_region_mono 5 5 [] (fun _ => default) (by kernel_rfl) (by kernel_rfl) (fun _ _ _ _ _ h => h) ?_
  simp only [List.take_succ_cons, List.take_zero, List.drop_succ_cons, List.drop_zero]
  repeat (first
    | (apply head_pure rfl rfl rfl
       case h => (intro w1; go_simp; rfl)
       simp only [Act.put, List.setIfInBounds_toArray, List.set_cons_zero, List.set_cons_succ])
    | (apply head_val rfl rfl rfl rfl
       case h => (intro w1 hC; have cA := cell4 (keep hC (hp_drew hA)); clear hC; go_simp; rfl)
       simp only [Act.put, List.setIfInBounds_toArray, List.set_cons_zero, List.set_cons_succ]))
  refine head_call rfl rfl rfl rfl (fun w1 hC => by first | (go_simp; done) | (go_simp; rfl)) (fun w1 hC => rprime_any w1) ?_
  simp only [Act.put, List.setIfInBounds_toArray, List.set_cons_zero, List.set_cons_succ]
  repeat
    (apply head_pure rfl rfl rfl
     case h => (intro w1; go_simp; rfl)
     simp only [Act.put, List.setIfInBounds_toArray, List.set_cons_zero, List.set_cons_succ])
  refine head_call rfl rfl rfl rfl (fun w1 hC => by first | (go_simp; done) | (go_simp; rfl)) (fun w1 hC => Hl.out w1) ?_
  simp only [Act.put, List.setIfInBounds_toArray, List.set_cons_zero, List.set_cons_succ]
  refine head_call rfl rfl rfl rfl (fun w1 hC => by first | (go_simp; done) | (go_simp; rfl)) (fun w1 hC => rpow_any a (p - 2) w1 Ha.out) ?_
  simp only [Act.put, List.setIfInBounds_toArray, List.set_cons_zero, List.set_cons_succ]
  rw [show powF a (p - 2) = finv a from rfl]
  refine head_nil ?_
  intro w3 hC _
  replace hw_w0 := below_tr hw_w0 hC
  replace hR := keep hC (hp_drew hR)
  clear hC
  refine wpList_storeBlk 4 rfl rfl rfl rfl hR rfl rfl (by kernel_rfl) (by kernel_rfl) ?_
  intro w4 s4
  simp only [Act.put]
  go_wp2_with fail
  exact bodyPost_ret (results_blk Try.results52 rfl s4.at_ Try.underlying26 rfl (by kernel_rfl)) rfl ⟨rfl, s4.below hw_w0 (by omega)⟩
end Go.Proofs.Ytdhaedjmlddjcaa
