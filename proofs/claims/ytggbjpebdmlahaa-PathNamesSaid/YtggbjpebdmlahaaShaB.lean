/- sha.row: the numbers of a block: what each call comes to. No conditions beyond the size. -/
import Derived.Test.YtggbjpebdmlahaaShaA
import Derived.Test.YtggbjpebdmlahaaPathC
namespace Go.Num
open Go Go.RowKit
/-- A byte, as a number of 32 bits. -/
def byB (f : Nat → Nat) (j : Nat) : BitVec 32 := BitVec.ofNat 32 (f j)
theorem byB_nat (f : Nat → Nat) (hf : ∀ j, f j < 256) (j : Nat) : f j = nv (byB f j) := by
  unfold byB
  rw [bv_nat _ (by have := hf j; omega)]
/-- Four bytes as a number, the highest first. -/
def wordB (f : Nat → Nat) (i : Nat) : BitVec 32 := ((byB f (4 * i) <<< 24 ||| byB f (4 * i + 1) <<< 16) ||| byB f (4 * i + 2) <<< 8) ||| byB f (4 * i + 3)
def sig0 (x : BitVec 32) : BitVec 32 := (rotB x 7 ^^^ rotB x 18) ^^^ x >>> 3
def sig1 (x : BitVec 32) : BitVec 32 := (rotB x 17 ^^^ rotB x 19) ^^^ x >>> 10
def nextW (f : Nat → Nat) (g : Nat → BitVec 32) (k : Nat) : BitVec 32 := if k < 16 then wordB f k else ((g (k - 16) + sig0 (g (k - 15))) + g (k - 7)) + sig1 (g (k - 2))
/-- The first k numbers of a block. -/
def sched (f : Nat → Nat) : Nat → Nat → BitVec 32
  | 0 => fun _ => 0
  | k + 1 => fun j => if j = k then nextW f (sched f k) k else sched f k j
theorem zero64 : (#[Value.int .u32 0, Value.int .u32 0, Value.int .u32 0, Value.int .u32 0, Value.int .u32 0, Value.int .u32 0, Value.int .u32 0, Value.int .u32 0, Value.int .u32 0, Value.int .u32 0, Value.int .u32 0, Value.int .u32 0, Value.int .u32 0, Value.int .u32 0, Value.int .u32 0, Value.int .u32 0, Value.int .u32 0, Value.int .u32 0, Value.int .u32 0, Value.int .u32 0, Value.int .u32 0, Value.int .u32 0, Value.int .u32 0, Value.int .u32 0, Value.int .u32 0, Value.int .u32 0, Value.int .u32 0, Value.int .u32 0, Value.int .u32 0, Value.int .u32 0, Value.int .u32 0, Value.int .u32 0, Value.int .u32 0, Value.int .u32 0, Value.int .u32 0, Value.int .u32 0, Value.int .u32 0, Value.int .u32 0, Value.int .u32 0, Value.int .u32 0, Value.int .u32 0, Value.int .u32 0, Value.int .u32 0, Value.int .u32 0, Value.int .u32 0, Value.int .u32 0, Value.int .u32 0, Value.int .u32 0, Value.int .u32 0, Value.int .u32 0, Value.int .u32 0, Value.int .u32 0, Value.int .u32 0, Value.int .u32 0, Value.int .u32 0, Value.int .u32 0, Value.int .u32 0, Value.int .u32 0, Value.int .u32 0, Value.int .u32 0, Value.int .u32 0, Value.int .u32 0, Value.int .u32 0, Value.int .u32 0] : Array Value) = wcells (fun _ => 0) 64 := by kernel_rfl
end Go.Num
namespace Go.Proofs.Ytggbjpebdmlahaa
open Go.RowKit Go.Mono Go.Num
set_option maxRecDepth 8000 in
set_option maxHeartbeats 1000000 in
theorem row_any (f : Nat → Nat) (w : World) (hf : ∀ j, f j < 256) :
    Calls Try.prog 79 #[.string (bstr f 64)] w fun e w' => e = .returned (.agg (wcells (sched f 64) 64)) ∧ Below w.heap.size w w' := by
  have hsz := bstr_size f 64
  go_enter Try.func79, Try.ntmps79
  go_wp2_with fail
  rw [zero64]
  obtain ⟨w3, hq_w3⟩ : ∃ w3, (w.alloc (.cells (wcells (fun _ => 0) 64) 105)) = w3 := ⟨_, rfl⟩
  have hs : w3.heap[w.heap.size]? = some (.cells (wcells (fun _ => 0) 64) 105) := by rw [← hq_w3]; exact hp_new _ (by simp)
  have hs_w3 : w3.heap.size = w.heap.size + 1 := by rw [← hq_w3]; simp
  have hw_w3 : Below w.heap.size w w3 := by rw [← hq_w3]; exact (Below.refl w.heap.size w).alloc (Nat.le_refl _) _
  rw [hq_w3]
  clear hq_w3
  go_loopw [8] (fun i wr => ∃ k : Nat, k ≤ 64 ∧ i = .int .i64 k ∧ wr.heap[w.heap.size]? = some (.cells (wcells (sched f k) 64) 105) ∧ Below w.heap.size w wr) (fun i _ => 64 - (intOf i).toNat)
  case atStart => exact ⟨0, by omega, rfl, hs, hw_w3⟩
  case round =>
    clear hs hw_w3 hs_w3
    obtain ⟨k, hk, rfl, hs, hw⟩ := hrel
    by_cases hlt : k < 64
    · have hlt' : (k : Int) < 64 := by omega
      have hcg : (wcells (sched f k) 64).setIfInBounds k (.int .u32 (nv (nextW f (sched f k) k) : Int)) = wcells (sched f (k + 1)) 64 := by
        rw [kcells_set]
        apply kcells_congr
        intro j _
        show _ = nv (if j = k then _ else _ : BitVec 32)
        by_cases h : j = k
        · simp only [h, if_true]
        · simp only [h, if_false]
      by_cases h16 : k < 16
      · have h16' : (k : Int) < 16 := by omega
        have hnw : nextW f (sched f k) k = wordB f k := if_pos h16
        rw [hnw] at hcg
        have hwd : wordB f k = ((byB f (4 * k) <<< 24 ||| byB f (4 * k + 1) <<< 16) ||| byB f (4 * k + 2) <<< 8) ||| byB f (4 * k + 3) := rfl
        obtain ⟨k0, hk0⟩ : ∃ k0, 4 * k = k0 := ⟨_, rfl⟩
        obtain ⟨k1, hk1⟩ : ∃ k1, k0 + 1 = k1 := ⟨_, rfl⟩
        obtain ⟨k2, hk2⟩ : ∃ k2, k0 + 2 = k2 := ⟨_, rfl⟩
        obtain ⟨k3, hk3⟩ : ∃ k3, k0 + 3 = k3 := ⟨_, rfl⟩
        rw [hk0, hk1, hk2, hk3] at hwd
        have b0 := bstr_at f 64 k0 (hf _) (by omega)
        have b1 := bstr_at f 64 k1 (hf _) (by omega)
        have b2 := bstr_at f 64 k2 (hf _) (by omega)
        have b3 := bstr_at f 64 k3 (hf _) (by omega)
        rw [byB_nat f hf] at b0 b1 b2 b3
        have e0 : IntKind.i64.wrap (4 * (k : Int)) = (k0 : Int) := by rw [wrap_i64]; omega
        have e1 : IntKind.i64.wrap ((k0 : Int) + 1) = (k1 : Int) := by rw [wrap_i64]; omega
        have e2 : IntKind.i64.wrap ((k0 : Int) + 2) = (k2 : Int) := by rw [wrap_i64]; omega
        have e3 : IntKind.i64.wrap ((k0 : Int) + 3) = (k3 : Int) := by rw [wrap_i64]; omega
        have l0 : (k0 : Int) < 64 := by omega
        have l1 : (k1 : Int) < 64 := by omega
        have l2 : (k2 : Int) < 64 := by omega
        have l3 : (k3 : Int) < 64 := by omega
        generalize byB f k0 = B0 at *
        generalize byB f k1 = B1 at *
        generalize byB f k2 = B2 at *
        generalize byB f k3 = B3 at *
        go_wp2_with fail
        refine wp_region_mono 31 31 [] (fun _ => default) (by kernel_rfl) (by kernel_rfl) (fun _ _ _ _ _ h => h) ?_
        simp only [List.take_succ_cons, List.take_zero, List.drop_succ_cons, List.drop_zero]
        repeat
          (apply head_pure rfl rfl rfl
           case h => (intro w1; go_simp; first | (simp only [bv_wrap, bv_xor, bv_and, bv_or, bv_add, bw_add, bv_not, bv_sgn, bv_nots, bv_shl24, bv_shl16, bv_shl8, bw_shl24, bw_shl16, bw_shl8, bv_shr3, bv_shr10]; rfl) | simp only [bv_wrap, bv_xor, bv_and, bv_or, bv_add, bw_add, bv_not, bv_sgn, bv_nots, bv_shl24, bv_shl16, bv_shl8, bw_shl24, bw_shl16, bw_shl8, bv_shr3, bv_shr10] | rfl)
           simp only [Act.put, List.setIfInBounds_toArray, List.set_cons_zero, List.set_cons_succ])
        refine head_nil ?_
        intro w2 hC _
        rw [hwd] at hcg
        replace hs := keep hC (hp_drew hs)
        replace hw := below_tr hw hC
        clear hC
        have cc := kcells_at hs k hlt
        have cf := frozen_of hs k
        have hs2 := hp_set (o := k) (v := .int .u32 (nv (((B0 <<< 24 ||| B1 <<< 16) ||| B2 <<< 8) ||| B3) : Int)) hs
        rw [hcg] at hs2
        have hw2 := hw.setCell (p := ⟨w.heap.size, k, none⟩) (by simp) (.int .u32 (nv (((B0 <<< 24 ||| B1 <<< 16) ||| B2 <<< 8) ||| B3) : Int))
        clear hs hw hcg
        go_wp2_with fail
        go_roundw
        case rel => exact ⟨k + 1, by omega, by go_num, hs2, hw2⟩
        case measure => simp [intOf]; omega
      · have h16' : ¬ (k : Int) < 16 := by omega
        have hnw : nextW f (sched f k) k = ((sched f k (k - 16) + sig0 (sched f k (k - 15))) + sched f k (k - 7)) + sig1 (sched f k (k - 2)) := if_neg h16
        rw [hnw] at hcg
        obtain ⟨k16, hk16⟩ : ∃ k16, k - 16 = k16 := ⟨_, rfl⟩
        obtain ⟨k15, hk15⟩ : ∃ k15, k - 15 = k15 := ⟨_, rfl⟩
        obtain ⟨k7, hk7⟩ : ∃ k7, k - 7 = k7 := ⟨_, rfl⟩
        obtain ⟨k2, hk2⟩ : ∃ k2, k - 2 = k2 := ⟨_, rfl⟩
        rw [hk16, hk15, hk7, hk2] at hcg
        have e16 : IntKind.i64.wrap ((k : Int) - 16) = (k16 : Int) := by rw [wrap_i64]; omega
        have e15 : IntKind.i64.wrap ((k : Int) - 15) = (k15 : Int) := by rw [wrap_i64]; omega
        have e7 : IntKind.i64.wrap ((k : Int) - 7) = (k7 : Int) := by rw [wrap_i64]; omega
        have e2 : IntKind.i64.wrap ((k : Int) - 2) = (k2 : Int) := by rw [wrap_i64]; omega
        have l16 : (k16 : Int) < 64 := by omega
        have l15 : (k15 : Int) < 64 := by omega
        have l7 : (k7 : Int) < 64 := by omega
        have l2 : (k2 : Int) < 64 := by omega
        have q16 : k16 < 64 := by omega
        have q15 : k15 < 64 := by omega
        have q7 : k7 < 64 := by omega
        have q2 : k2 < 64 := by omega
        have hsg0 : ∀ x, sig0 x = (rotB x 7 ^^^ rotB x 18) ^^^ x >>> 3 := fun _ => rfl
        have hsg1 : ∀ x, sig1 x = (rotB x 17 ^^^ rotB x 19) ^^^ x >>> 10 := fun _ => rfl
        rw [hsg0, hsg1] at hcg
        clear hsg0 hsg1
        go_wp2_with fail
        refine wp_region_calm (by kernel_rfl) (by kernel_rfl) ?_
        repeat (first
          | (refine calm_not rfl ?_
             simp only [Act.put, List.setIfInBounds_toArray, List.set_cons_zero, List.set_cons_succ])
          | (apply calm_pure rfl
             case h => (intro w1; go_simp; rfl)
             simp only [Act.put, List.setIfInBounds_toArray, List.set_cons_zero, List.set_cons_succ])
          | (apply calm_val rfl
             case h => (intro w1 hC; have c15 := kcells_at (keep hC (hp_drew hs)) k15 q15; have c2 := kcells_at (keep hC (hp_drew hs)) k2 q2; clear hC; go_simp; rfl)
             simp only [Act.put, List.setIfInBounds_toArray, List.set_cons_zero, List.set_cons_succ]))
        refine wpQuiet_nil ?_
        intro w4 hC
        replace hs := keep hC (hp_drew hs)
        replace hw := below_tr hw hC
        clear hC
        go_wp2_with (go_at_call 80; refine (ror_z _ _ _ (by decide) (by decide)).mono ?_; rintro e w' ⟨rfl, rfl⟩)
        refine wp_region_mono 15 15 [] (fun _ => default) (by kernel_rfl) (by kernel_rfl) (fun _ _ _ _ _ h => h) ?_
        simp only [List.take_succ_cons, List.take_zero, List.drop_succ_cons, List.drop_zero]
        repeat (first
          | (apply head_pure rfl rfl rfl
             case h => (intro w1; go_simp; first | (simp only [bv_wrap, bv_xor, bv_and, bv_or, bv_add, bw_add, bv_not, bv_sgn, bv_nots, bv_shl24, bv_shl16, bv_shl8, bw_shl24, bw_shl16, bw_shl8, bv_shr3, bv_shr10]; rfl) | simp only [bv_wrap, bv_xor, bv_and, bv_or, bv_add, bw_add, bv_not, bv_sgn, bv_nots, bv_shl24, bv_shl16, bv_shl8, bw_shl24, bw_shl16, bw_shl8, bv_shr3, bv_shr10] | rfl)
             simp only [Act.put, List.setIfInBounds_toArray, List.set_cons_zero, List.set_cons_succ])
          | (apply head_val rfl rfl rfl rfl
             case h => (intro w1 hC; have c16 := kcells_at (keep hC (hp_drew hs)) k16 q16; have c7 := kcells_at (keep hC (hp_drew hs)) k7 q7; clear hC; go_simp; first | (simp only [bv_wrap, bv_xor, bv_and, bv_or, bv_add, bw_add, bv_not, bv_sgn, bv_nots, bv_shl24, bv_shl16, bv_shl8, bw_shl24, bw_shl16, bw_shl8, bv_shr3, bv_shr10]; rfl) | simp only [bv_wrap, bv_xor, bv_and, bv_or, bv_add, bw_add, bv_not, bv_sgn, bv_nots, bv_shl24, bv_shl16, bv_shl8, bw_shl24, bw_shl16, bw_shl8, bv_shr3, bv_shr10] | rfl)
             simp only [Act.put, List.setIfInBounds_toArray, List.set_cons_zero, List.set_cons_succ]))
        refine head_nil ?_
        intro w5 hC _
        replace hs := keep hC (hp_drew hs)
        replace hw := below_tr hw hC
        clear hC
        have cc := kcells_at hs k hlt
        have cf := frozen_of hs k
        have hs2 := hp_set (o := k) (v := .int .u32 (nv (((sched f k k16 + ((rotB (sched f k k15) 7 ^^^ rotB (sched f k k15) 18) ^^^ sched f k k15 >>> 3)) + sched f k k7) + ((rotB (sched f k k2) 17 ^^^ rotB (sched f k k2) 19) ^^^ sched f k k2 >>> 10)) : Int)) hs
        rw [hcg] at hs2
        have hw2 := hw.setCell (p := ⟨w.heap.size, k, none⟩) (by simp) (.int .u32 (nv (((sched f k k16 + ((rotB (sched f k k15) 7 ^^^ rotB (sched f k k15) 18) ^^^ sched f k k15 >>> 3)) + sched f k k7) + ((rotB (sched f k k2) 17 ^^^ rotB (sched f k k2) 19) ^^^ sched f k k2 >>> 10)) : Int))
        clear hs hw hcg
        go_wp2_with fail
        go_roundw
        case rel => exact ⟨k + 1, by omega, by go_num, hs2, hw2⟩
        case measure => simp [intOf]; omega
    · obtain rfl : k = 64 := by omega
      go_wp2_with (first
        | (refine wpList_storeBlk 64 rfl rfl rfl rfl hs (kcells_size _ _) (kcells_size _ _) (by kernel_rfl) (kcells_one _ _) ?_; intro w5 s5)
        | refine wpList_load_row rfl _ _ rfl w.heap.size rfl 105 _ _ _ hs Try.underlying105 rfl (by kernel_rfl) ?_)
      exact bodyPost_ret (results_blk Try.results79 rfl s5.at_ Try.underlying105 rfl (by kernel_rfl)) rfl ⟨rfl, s5.below hw (Nat.le_refl _)⟩
end Go.Proofs.Ytggbjpebdmlahaa
