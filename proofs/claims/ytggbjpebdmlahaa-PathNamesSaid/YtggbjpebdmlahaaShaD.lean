/- sha.next: eight numbers behind a block: what each call comes to. No conditions. -/
import Derived.Test.YtggbjpebdmlahaaShaC
import Derived.Deep.Cut
namespace Go.Num
open Go Go.RowKit
/-- One step. -/
def uB (k m : BitVec 32) (x : Nat → BitVec 32) : BitVec 32 :=
  (((x 7 + ((rotB (x 4) 6 ^^^ rotB (x 4) 11) ^^^ rotB (x 4) 25)) + ((x 4 &&& x 5) ^^^ (~~~(x 4) &&& x 6))) + k) + m
def vB (x : Nat → BitVec 32) : BitVec 32 :=
  ((rotB (x 0) 2 ^^^ rotB (x 0) 13) ^^^ rotB (x 0) 22) + (((x 0 &&& x 1) ^^^ (x 0 &&& x 2)) ^^^ (x 1 &&& x 2))
def stepB (k m : BitVec 32) (x : Nat → BitVec 32) (j : Nat) : BitVec 32 :=
  if j = 0 then uB k m x + vB x else if j = 4 then x 3 + uB k m x else x (j - 1)
def runB (f : Nat → Nat) (h : Nat → BitVec 32) : Nat → Nat → BitVec 32
  | 0 => h
  | i + 1 => stepB (kB i) (sched f 64 i) (runB f h i)
/-- The eight numbers behind a block. -/
def nextB (f : Nat → Nat) (h : Nat → BitVec 32) (j : Nat) : BitVec 32 := h j + runB f h 64 j
def addsB (h x : Nat → BitVec 32) (k j : Nat) : BitVec 32 := if j < k then h j + x j else h j
theorem addsB_at (h x : Nat → BitVec 32) (k : Nat) : addsB h x k k = h k := if_neg (Nat.lt_irrefl k)
theorem addsB_set (h x : Nat → BitVec 32) (k m : Nat) : (wcells (addsB h x k) m).setIfInBounds k (.int .u32 (nv (h k + x k) : Int)) = wcells (addsB h x (k + 1)) m := by
  rw [kcells_set]
  apply kcells_congr
  intro j _
  by_cases h1 : j = k
  · subst h1
    rw [if_pos rfl]
    unfold addsB
    rw [if_pos (by omega)]
  · rw [if_neg h1]
    unfold addsB
    by_cases h2 : j < k
    · rw [if_pos h2, if_pos (by omega)]
    · rw [if_neg h2, if_neg (by omega)]
theorem addsB_end (h x : Nat → BitVec 32) (m : Nat) : wcells (addsB h x m) m = wcells (fun j => h j + x j) m := by
  apply kcells_congr
  intro j hj
  unfold addsB
  rw [if_pos hj]
theorem addsB_zero (h x : Nat → BitVec 32) (m : Nat) : wcells (addsB h x 0) m = wcells h m := by
  apply kcells_congr
  intro j hj
  unfold addsB
  rw [if_neg (by omega)]
theorem wcells8 (x : Nat → BitVec 32) : wcells x 8 = #[.int .u32 (nv (x 0)), .int .u32 (nv (x 1)), .int .u32 (nv (x 2)), .int .u32 (nv (x 3)), .int .u32 (nv (x 4)), .int .u32 (nv (x 5)), .int .u32 (nv (x 6)), .int .u32 (nv (x 7))] := rfl
theorem zero8 : (#[Value.int .u32 0, Value.int .u32 0, Value.int .u32 0, Value.int .u32 0, Value.int .u32 0, Value.int .u32 0, Value.int .u32 0, Value.int .u32 0] : Array Value) = wcells (fun _ => 0) 8 := by kernel_rfl
end Go.Num
namespace Go.Proofs.Ytggbjpebdmlahaa
open Go.RowKit Go.Mono Go.Num
set_option maxRecDepth 8000 in
set_option maxHeartbeats 1000000 in
theorem next_any (f : Nat → Nat) (h : Nat → BitVec 32) (w : World) (hf : ∀ j, f j < 256) :
    Calls Try.prog 64 #[.agg (wcells h 8), .string (bstr f 64)] w fun e w' => e = .returned (.agg (wcells (nextB f h) 8)) ∧ Below w.heap.size w w' := by
  go_enter Try.func64, Try.ntmps64
  go_upto_region 1 with (fail)
  rw [zero8]
  obtain ⟨w0, hq_w0⟩ : ∃ w0, ((w.alloc (.cells (wcells h 8) 89)).alloc (.cells (wcells (fun _ => 0) 8) 89)) = w0 := ⟨_, rfl⟩
  have hH : w0.heap[w.heap.size]? = some (.cells (wcells h 8) 89) := by rw [← hq_w0]; exact hp_old _ (hp_new _ (by simp))
  have hR : w0.heap[w.heap.size + 1]? = some (.cells (wcells (fun _ => 0) 8) 89) := by rw [← hq_w0]; exact hp_new _ (by simp)
  have hs_w0 : w0.heap.size = w.heap.size + 2 := by rw [← hq_w0]; simp
  have hw_w0 : Below w.heap.size w w0 := by rw [← hq_w0]; exact ((Below.refl w.heap.size w).alloc (Nat.le_refl _) _).alloc (by simp) _
  rw [hq_w0]
  clear hq_w0
  go_upto_region 2 with (first
    | (go_at_call 78; refine (consts_any _).mono ?_; rintro e w1 ⟨rfl, hb1⟩)
    | (go_at_call 79; refine (row_any f _ hf).mono ?_; rintro e w2 ⟨rfl, hb2⟩)
    | (refine wpList_storeBlk 64 rfl rfl rfl rfl (hp_old _ (hp_new _ rfl)) rfl (kcells_size _ _) (by kernel_rfl) (kcells_one _ _) ?_; intro w3 s3)
    | (refine wpList_storeBlk 64 rfl rfl rfl rfl (s3.other (hp_new _ (by simp)) (by omega)) rfl (kcells_size _ _) (by kernel_rfl) (kcells_one _ _) ?_; intro w4 s4))
  simp only [Act.put]
  have hl1 := hb1.size
  have hl2 := hb2.size
  replace hH := s4.other (s3.other (hp_old _ (hp_old _ (keep hb2 (keep hb1 hH)))) (by omega)) (by omega)
  replace hR := s4.other (s3.other (hp_old _ (hp_old _ (keep hb2 (keep hb1 hR)))) (by omega)) (by omega)
  have hK := s4.other s3.at_ (by omega)
  have hM := s4.at_
  have hw : Below w.heap.size w w4 := s4.below (s3.below (((below_tr' (below_tr' hw_w0 hb1) hb2).alloc (by omega) _).alloc (by simp; omega) _) (by omega)) (by omega)
  have hz : w4.heap.size = w2.heap.size + 2 := by rw [s4.size, s3.size]; simp
  have hlk : w.heap.size + 2 ≤ w2.heap.size := by omega
  clear s3 s4 hb1 hb2 hl1 hl2 hw_w0 hs_w0
  generalize w2.heap.size = BK at *
  go_upto_region 3 with (first
    | (refine wpList_load_row rfl _ _ rfl w.heap.size rfl 89 _ _ _ hH Try.underlying89 rfl (by kernel_rfl) ?_)
    | (refine wpList_storeBlk 8 rfl rfl rfl rfl (hp_new _ hz.symm) rfl (kcells_size _ _) (by kernel_rfl) (kcells_one _ _) ?_; intro w5 s5))
  replace hH := s5.other (hp_old _ hH) (by omega)
  replace hR := s5.other (hp_old _ hR) (by omega)
  replace hK := s5.other (hp_old _ hK) (by omega)
  replace hM := s5.other (hp_old _ hM) (by omega)
  have hX := s5.at_
  replace hw := s5.below (hw.alloc (by omega) _) (by omega)
  simp only [Act.put]
  clear s5 hz
  go_wp2_with fail
  go_loopw [22] (fun i wr => ∃ k : Nat, k ≤ 64 ∧ i = .int .i64 k ∧ wr.heap[BK + 2]? = some (.cells (wcells (runB f h k) 8) 89) ∧ wr.heap[BK]? = some (.cells (wcells kB 64) 105) ∧ wr.heap[BK + 1]? = some (.cells (wcells (sched f 64) 64) 105) ∧ wr.heap[w.heap.size]? = some (.cells (wcells h 8) 89) ∧ wr.heap[w.heap.size + 1]? = some (.cells (wcells (fun _ => 0) 8) 89) ∧ Below w.heap.size w wr) (fun i _ => 64 - (intOf i).toNat)
  case atStart => exact ⟨0, by omega, rfl, hX, hK, hM, hH, hR, hw⟩
  case round =>
    clear hX hK hM hH hR hw
    obtain ⟨k, hk, rfl, hX, hK, hM, hH, hR, hw⟩ := hrel
    by_cases hlt : k < 64
    · have hlt' : (k : Int) < 64 := by omega
      have hst : ∀ j, runB f h (k + 1) j = stepB (kB k) (sched f 64 k) (runB f h k) j := fun _ => rfl
      obtain ⟨x, hx⟩ : ∃ x, runB f h k = x := ⟨_, rfl⟩
      rw [hx] at hX
      simp only [hx] at hst
      go_wp2_with fail
      refine wp_region_calm (by kernel_rfl) (by kernel_rfl) ?_
      repeat (first
        | (refine calm_not rfl ?_
           simp only [Act.put, List.setIfInBounds_toArray, List.set_cons_zero, List.set_cons_succ])
        | (apply calm_pure rfl
           case h => (intro w1; go_simp; first | (simp only [bv_wrap, bv_xor, bv_and, bv_or, bv_add, bw_add, bv_not, bv_sgn, bv_nots, bv_shl24, bv_shl16, bv_shl8, bw_shl24, bw_shl16, bw_shl8, bv_shr3, bv_shr10]; rfl) | simp only [bv_wrap, bv_xor, bv_and, bv_or, bv_add, bw_add, bv_not, bv_sgn, bv_nots, bv_shl24, bv_shl16, bv_shl8, bw_shl24, bw_shl16, bw_shl8, bv_shr3, bv_shr10] | rfl)
           simp only [Act.put, List.setIfInBounds_toArray, List.set_cons_zero, List.set_cons_succ])
        | (apply calm_val rfl
           case h => (intro w1 hC; have x0 := kcells_at (keep hC (hp_drew hX)) 0 (by decide); have x1 := kcells_at (keep hC (hp_drew hX)) 1 (by decide); have x2 := kcells_at (keep hC (hp_drew hX)) 2 (by decide); have x4 := kcells_at (keep hC (hp_drew hX)) 4 (by decide); have x5 := kcells_at (keep hC (hp_drew hX)) 5 (by decide); have x6 := kcells_at (keep hC (hp_drew hX)) 6 (by decide); clear hC; go_simp; first | (simp only [bv_wrap, bv_xor, bv_and, bv_or, bv_add, bw_add, bv_not, bv_sgn, bv_nots, bv_shl24, bv_shl16, bv_shl8, bw_shl24, bw_shl16, bw_shl8, bv_shr3, bv_shr10]; rfl) | simp only [bv_wrap, bv_xor, bv_and, bv_or, bv_add, bw_add, bv_not, bv_sgn, bv_nots, bv_shl24, bv_shl16, bv_shl8, bw_shl24, bw_shl16, bw_shl8, bv_shr3, bv_shr10] | rfl)
           simp only [Act.put, List.setIfInBounds_toArray, List.set_cons_zero, List.set_cons_succ]))
      refine wpQuiet_nil ?_
      intro w7 hC
      replace hw := below_tr hw hC
      replace hX := keep hC (hp_drew hX)
      replace hK := keep hC (hp_drew hK)
      replace hM := keep hC (hp_drew hM)
      replace hH := keep hC (hp_drew hH)
      replace hR := keep hC (hp_drew hR)
      clear hC
      go_upto_region 7 with (fail)
      refine wp_region_calm (by kernel_rfl) (by kernel_rfl) ?_
      repeat (first
        | (refine calm_not rfl ?_
           simp only [Act.put, List.setIfInBounds_toArray, List.set_cons_zero, List.set_cons_succ])
        | (apply calm_pure rfl
           case h => (intro w1; go_simp; first | (simp only [bv_wrap, bv_xor, bv_and, bv_or, bv_add, bw_add, bv_not, bv_sgn, bv_nots, bv_shl24, bv_shl16, bv_shl8, bw_shl24, bw_shl16, bw_shl8, bv_shr3, bv_shr10]; rfl) | simp only [bv_wrap, bv_xor, bv_and, bv_or, bv_add, bw_add, bv_not, bv_sgn, bv_nots, bv_shl24, bv_shl16, bv_shl8, bw_shl24, bw_shl16, bw_shl8, bv_shr3, bv_shr10] | rfl)
           simp only [Act.put, List.setIfInBounds_toArray, List.set_cons_zero, List.set_cons_succ])
        | (apply calm_val rfl
           case h => (intro w1 hC; have x7 := kcells_at (keep hC (hp_drew hX)) 7 (by decide); clear hC; go_simp; first | (simp only [bv_wrap, bv_xor, bv_and, bv_or, bv_add, bw_add, bv_not, bv_sgn, bv_nots, bv_shl24, bv_shl16, bv_shl8, bw_shl24, bw_shl16, bw_shl8, bv_shr3, bv_shr10]; rfl) | simp only [bv_wrap, bv_xor, bv_and, bv_or, bv_add, bw_add, bv_not, bv_sgn, bv_nots, bv_shl24, bv_shl16, bv_shl8, bw_shl24, bw_shl16, bw_shl8, bv_shr3, bv_shr10] | rfl)
           simp only [Act.put, List.setIfInBounds_toArray, List.set_cons_zero, List.set_cons_succ]))
      refine calm_call rfl (fun w1 hC => by first | (go_simp; done) | (go_simp; rfl)) (fun w1 hC => ror_b (x 4) 6 w1 (by decide) (by decide)) ?_
      simp only [Act.put, List.setIfInBounds_toArray, List.set_cons_zero, List.set_cons_succ]
      repeat (first
        | (refine calm_not rfl ?_
           simp only [Act.put, List.setIfInBounds_toArray, List.set_cons_zero, List.set_cons_succ])
        | (apply calm_pure rfl
           case h => (intro w1; go_simp; first | (simp only [bv_wrap, bv_xor, bv_and, bv_or, bv_add, bw_add, bv_not, bv_sgn, bv_nots, bv_shl24, bv_shl16, bv_shl8, bw_shl24, bw_shl16, bw_shl8, bv_shr3, bv_shr10]; rfl) | simp only [bv_wrap, bv_xor, bv_and, bv_or, bv_add, bw_add, bv_not, bv_sgn, bv_nots, bv_shl24, bv_shl16, bv_shl8, bw_shl24, bw_shl16, bw_shl8, bv_shr3, bv_shr10] | rfl)
           simp only [Act.put, List.setIfInBounds_toArray, List.set_cons_zero, List.set_cons_succ]))
      refine calm_call rfl (fun w1 hC => by first | (go_simp; done) | (go_simp; rfl)) (fun w1 hC => ror_b (x 4) 11 w1 (by decide) (by decide)) ?_
      simp only [Act.put, List.setIfInBounds_toArray, List.set_cons_zero, List.set_cons_succ]
      repeat (first
        | (refine calm_not rfl ?_
           simp only [Act.put, List.setIfInBounds_toArray, List.set_cons_zero, List.set_cons_succ])
        | (apply calm_pure rfl
           case h => (intro w1; go_simp; first | (simp only [bv_wrap, bv_xor, bv_and, bv_or, bv_add, bw_add, bv_not, bv_sgn, bv_nots, bv_shl24, bv_shl16, bv_shl8, bw_shl24, bw_shl16, bw_shl8, bv_shr3, bv_shr10]; rfl) | simp only [bv_wrap, bv_xor, bv_and, bv_or, bv_add, bw_add, bv_not, bv_sgn, bv_nots, bv_shl24, bv_shl16, bv_shl8, bw_shl24, bw_shl16, bw_shl8, bv_shr3, bv_shr10] | rfl)
           simp only [Act.put, List.setIfInBounds_toArray, List.set_cons_zero, List.set_cons_succ]))
      refine calm_call rfl (fun w1 hC => by first | (go_simp; done) | (go_simp; rfl)) (fun w1 hC => ror_b (x 4) 25 w1 (by decide) (by decide)) ?_
      simp only [Act.put, List.setIfInBounds_toArray, List.set_cons_zero, List.set_cons_succ]
      repeat (first
        | (refine calm_not rfl ?_
           simp only [Act.put, List.setIfInBounds_toArray, List.set_cons_zero, List.set_cons_succ])
        | (apply calm_pure rfl
           case h => (intro w1; go_simp; first | (simp only [bv_wrap, bv_xor, bv_and, bv_or, bv_add, bw_add, bv_not, bv_sgn, bv_nots, bv_shl24, bv_shl16, bv_shl8, bw_shl24, bw_shl16, bw_shl8, bv_shr3, bv_shr10]; rfl) | simp only [bv_wrap, bv_xor, bv_and, bv_or, bv_add, bw_add, bv_not, bv_sgn, bv_nots, bv_shl24, bv_shl16, bv_shl8, bw_shl24, bw_shl16, bw_shl8, bv_shr3, bv_shr10] | rfl)
           simp only [Act.put, List.setIfInBounds_toArray, List.set_cons_zero, List.set_cons_succ])
        | (apply calm_val rfl
           case h => (intro w1 hC; have xk := kcells_at (keep hC (hp_drew hK)) k hlt; have xm := kcells_at (keep hC (hp_drew hM)) k hlt; clear hC; go_simp; first | (simp only [bv_wrap, bv_xor, bv_and, bv_or, bv_add, bw_add, bv_not, bv_sgn, bv_nots, bv_shl24, bv_shl16, bv_shl8, bw_shl24, bw_shl16, bw_shl8, bv_shr3, bv_shr10]; rfl) | simp only [bv_wrap, bv_xor, bv_and, bv_or, bv_add, bw_add, bv_not, bv_sgn, bv_nots, bv_shl24, bv_shl16, bv_shl8, bw_shl24, bw_shl16, bw_shl8, bv_shr3, bv_shr10] | rfl)
           simp only [Act.put, List.setIfInBounds_toArray, List.set_cons_zero, List.set_cons_succ]))
      refine wpQuiet_nil ?_
      intro w8 hC
      replace hw := below_tr hw hC
      replace hX := keep hC (hp_drew hX)
      replace hK := keep hC (hp_drew hK)
      replace hM := keep hC (hp_drew hM)
      replace hH := keep hC (hp_drew hH)
      replace hR := keep hC (hp_drew hR)
      clear hC
      go_upto_region 8 with (fail)
      refine wp_region_lit ?_
      repeat (first
        | (refine seq_not rfl ?_
           simp only [Act.put, List.setIfInBounds_toArray, List.set_cons_zero, List.set_cons_succ])
        | (apply seq_val rfl
           case h => (go_simp; first | (simp only [bv_wrap, bv_xor, bv_and, bv_or, bv_add, bw_add, bv_not, bv_sgn, bv_nots, bv_shl24, bv_shl16, bv_shl8, bw_shl24, bw_shl16, bw_shl8, bv_shr3, bv_shr10]; rfl) | simp only [bv_wrap, bv_xor, bv_and, bv_or, bv_add, bw_add, bv_not, bv_sgn, bv_nots, bv_shl24, bv_shl16, bv_shl8, bw_shl24, bw_shl16, bw_shl8, bv_shr3, bv_shr10] | rfl)
           simp only [Act.put, List.setIfInBounds_toArray, List.set_cons_zero, List.set_cons_succ]))
      refine seq_same rfl (by first | (go_simp; done) | (go_simp; rfl)) (ror_z (x 0) 2 _ (by decide) (by decide)) ?_
      simp only [Act.put, List.setIfInBounds_toArray, List.set_cons_zero, List.set_cons_succ]
      repeat (first
        | (refine seq_not rfl ?_
           simp only [Act.put, List.setIfInBounds_toArray, List.set_cons_zero, List.set_cons_succ])
        | (apply seq_val rfl
           case h => (go_simp; first | (simp only [bv_wrap, bv_xor, bv_and, bv_or, bv_add, bw_add, bv_not, bv_sgn, bv_nots, bv_shl24, bv_shl16, bv_shl8, bw_shl24, bw_shl16, bw_shl8, bv_shr3, bv_shr10]; rfl) | simp only [bv_wrap, bv_xor, bv_and, bv_or, bv_add, bw_add, bv_not, bv_sgn, bv_nots, bv_shl24, bv_shl16, bv_shl8, bw_shl24, bw_shl16, bw_shl8, bv_shr3, bv_shr10] | rfl)
           simp only [Act.put, List.setIfInBounds_toArray, List.set_cons_zero, List.set_cons_succ]))
      refine seq_same rfl (by first | (go_simp; done) | (go_simp; rfl)) (ror_z (x 0) 13 _ (by decide) (by decide)) ?_
      simp only [Act.put, List.setIfInBounds_toArray, List.set_cons_zero, List.set_cons_succ]
      repeat (first
        | (refine seq_not rfl ?_
           simp only [Act.put, List.setIfInBounds_toArray, List.set_cons_zero, List.set_cons_succ])
        | (apply seq_val rfl
           case h => (go_simp; first | (simp only [bv_wrap, bv_xor, bv_and, bv_or, bv_add, bw_add, bv_not, bv_sgn, bv_nots, bv_shl24, bv_shl16, bv_shl8, bw_shl24, bw_shl16, bw_shl8, bv_shr3, bv_shr10]; rfl) | simp only [bv_wrap, bv_xor, bv_and, bv_or, bv_add, bw_add, bv_not, bv_sgn, bv_nots, bv_shl24, bv_shl16, bv_shl8, bw_shl24, bw_shl16, bw_shl8, bv_shr3, bv_shr10] | rfl)
           simp only [Act.put, List.setIfInBounds_toArray, List.set_cons_zero, List.set_cons_succ]))
      refine seq_same rfl (by first | (go_simp; done) | (go_simp; rfl)) (ror_z (x 0) 22 _ (by decide) (by decide)) ?_
      simp only [Act.put, List.setIfInBounds_toArray, List.set_cons_zero, List.set_cons_succ]
      repeat (first
        | (refine seq_not rfl ?_
           simp only [Act.put, List.setIfInBounds_toArray, List.set_cons_zero, List.set_cons_succ])
        | (apply seq_val rfl
           case h => (go_simp; first | (simp only [bv_wrap, bv_xor, bv_and, bv_or, bv_add, bw_add, bv_not, bv_sgn, bv_nots, bv_shl24, bv_shl16, bv_shl8, bw_shl24, bw_shl16, bw_shl8, bv_shr3, bv_shr10]; rfl) | simp only [bv_wrap, bv_xor, bv_and, bv_or, bv_add, bw_add, bv_not, bv_sgn, bv_nots, bv_shl24, bv_shl16, bv_shl8, bw_shl24, bw_shl16, bw_shl8, bv_shr3, bv_shr10] | rfl)
           simp only [Act.put, List.setIfInBounds_toArray, List.set_cons_zero, List.set_cons_succ]))
      go_upto_region 9 with (fail)
      refine wp_region_lit ?_
      repeat (first
        | (refine seq_not rfl ?_
           simp only [Act.put, List.setIfInBounds_toArray, List.set_cons_zero, List.set_cons_succ])
        | (apply seq_val rfl
           case h => (have x3 := kcells_at hX 3 (by decide); go_simp; first | (simp only [bv_wrap, bv_xor, bv_and, bv_or, bv_add, bw_add, bv_not, bv_sgn, bv_nots, bv_shl24, bv_shl16, bv_shl8, bw_shl24, bw_shl16, bw_shl8, bv_shr3, bv_shr10]; rfl) | simp only [bv_wrap, bv_xor, bv_and, bv_or, bv_add, bw_add, bv_not, bv_sgn, bv_nots, bv_shl24, bv_shl16, bv_shl8, bw_shl24, bw_shl16, bw_shl8, bv_shr3, bv_shr10] | rfl)
           simp only [Act.put, List.setIfInBounds_toArray, List.set_cons_zero, List.set_cons_succ]))
      refine wpList_storeBlk (cells := wcells (stepB (kB k) (sched f 64 k) x) 8) 8 rfl rfl rfl rfl hX (kcells_size _ _) (kcells_size _ _) (by kernel_rfl) (kcells_one _ _) ?_
      intro w9 s9
      replace hK := s9.other hK (by omega)
      replace hM := s9.other hM (by omega)
      replace hH := s9.other hH (by omega)
      replace hR := s9.other hR (by omega)
      replace hX := s9.at_
      replace hw := s9.below hw (by omega)
      clear s9
      rw [← hx] at hX
      go_wp2_with fail
      go_roundw
      case rel => exact ⟨k + 1, by omega, by go_num, hX, hK, hM, hH, hR, hw⟩
      case measure => simp [intOf]; omega
    · obtain rfl : k = 64 := by omega
      clear hk hlt hK hM
      go_wp2_with fail
      go_loopw [100] (fun i wr => ∃ k : Nat, k ≤ 8 ∧ i = .int .i64 k ∧ wr.heap[w.heap.size]? = some (.cells (wcells (addsB h (runB f h 64) k) 8) 89) ∧ wr.heap[BK + 2]? = some (.cells (wcells (runB f h 64) 8) 89) ∧ wr.heap[w.heap.size + 1]? = some (.cells (wcells (fun _ => 0) 8) 89) ∧ Below w.heap.size w wr) (fun i _ => 8 - (intOf i).toNat)
      case atStart => exact ⟨0, by omega, rfl, by rw [addsB_zero]; exact hH, hX, hR, hw⟩
      case round =>
        clear hX hH hR hw
        obtain ⟨k, hk, rfl, hH, hX, hR, hw⟩ := hrel
        by_cases hlt : k < 8
        · have hlt' : (k : Int) < 8 := by omega
          go_wp2_with fail
          refine wp_region_mono 8 8 [] (fun _ => default) (by kernel_rfl) (by kernel_rfl) (fun _ _ _ _ _ h => h) ?_
          simp only [List.take_succ_cons, List.take_zero, List.drop_succ_cons, List.drop_zero]
          repeat (first
            | (apply head_pure rfl rfl rfl
               case h => (intro w1; go_simp; first | (simp only [bv_wrap, bv_xor, bv_and, bv_or, bv_add, bw_add, bv_not, bv_sgn, bv_nots, bv_shl24, bv_shl16, bv_shl8, bw_shl24, bw_shl16, bw_shl8, bv_shr3, bv_shr10]; rfl) | simp only [bv_wrap, bv_xor, bv_and, bv_or, bv_add, bw_add, bv_not, bv_sgn, bv_nots, bv_shl24, bv_shl16, bv_shl8, bw_shl24, bw_shl16, bw_shl8, bv_shr3, bv_shr10] | rfl)
               simp only [Act.put, List.setIfInBounds_toArray, List.set_cons_zero, List.set_cons_succ])
            | (apply head_val rfl rfl rfl rfl
               case h => (intro w1 hC; have c1 := (kcells_at (keep hC (hp_drew hH)) k hlt).trans (by rw [addsB_at]); have c2 := kcells_at (keep hC (hp_drew hX)) k hlt; clear hC; go_simp; first | (simp only [bv_wrap, bv_xor, bv_and, bv_or, bv_add, bw_add, bv_not, bv_sgn, bv_nots, bv_shl24, bv_shl16, bv_shl8, bw_shl24, bw_shl16, bw_shl8, bv_shr3, bv_shr10]; rfl) | simp only [bv_wrap, bv_xor, bv_and, bv_or, bv_add, bw_add, bv_not, bv_sgn, bv_nots, bv_shl24, bv_shl16, bv_shl8, bw_shl24, bw_shl16, bw_shl8, bv_shr3, bv_shr10] | rfl)
               simp only [Act.put, List.setIfInBounds_toArray, List.set_cons_zero, List.set_cons_succ]))
          refine head_nil ?_
          intro w5 hC _
          replace hw := below_tr hw hC
          replace hX := keep hC (hp_drew hX)
          replace hH := keep hC (hp_drew hH)
          replace hR := keep hC (hp_drew hR)
          clear hC
          have cc := kcells_at hH k hlt
          have cf := frozen_of hH k
          have hs2 := hp_set (o := k) (v := .int .u32 (nv (h k + runB f h 64 k) : Int)) hH
          rw [addsB_set] at hs2
          have hX2 := hp_set_ne (b' := w.heap.size) (o := k) (v := .int .u32 (nv (h k + runB f h 64 k) : Int)) hX (by omega)
          have hR2 := hp_set_ne (b' := w.heap.size) (o := k) (v := .int .u32 (nv (h k + runB f h 64 k) : Int)) hR (by omega)
          have hw2 := hw.setCell (p := ⟨w.heap.size, k, none⟩) (by simp) (.int .u32 (nv (h k + runB f h 64 k) : Int))
          clear hH hX hR hw
          go_wp2_with fail
          go_roundw
          case rel => exact ⟨k + 1, by omega, by go_num, hs2, hX2, hR2, hw2⟩
          case measure => simp [intOf]; omega
        · obtain rfl : k = 8 := by omega
          rw [addsB_end] at hH
          go_wp2_with (first
            | (refine wpList_storeBlk 8 rfl rfl rfl rfl hR (kcells_size _ _) (kcells_size _ _) (by kernel_rfl) (kcells_one _ _) ?_; intro w6 s6)
            | refine wpList_load_row rfl _ _ rfl w.heap.size rfl 89 _ _ _ hH Try.underlying89 rfl (by kernel_rfl) ?_)
          exact bodyPost_ret (results_blk Try.results64 rfl s6.at_ Try.underlying89 rfl (by kernel_rfl)) rfl ⟨rfl, s6.below hw (by omega)⟩
end Go.Proofs.Ytggbjpebdmlahaa
