/- sha.New, sha.State.Sum, sha.Sum: what each call comes to. No conditions beyond the sizes. -/
import Derived.Test.YtggbjpebdmlahaaHashC
import Derived.Test.YtggbjpebdmlahaaSeqC
import Derived.Deep.Cut
import Derived.Test.YtggbjpebdmlahaaShelf
import Derived.Test.YtggbjpebdmlahaaOwnTwo
namespace Go.Num
open Go Go.RowKit
/-- A stream, and behind N bytes of it what a hash adds. -/
def padT (N : Nat) : Nat := N + 1 + (183 - N % 64) % 64
def padF (f : Nat → Nat) (N j : Nat) : Nat := if j < N then f j else if j = N then 128 else if j < padT N then 0 else 8 * N / 256 ^ (7 - (j - padT N)) % 256
/-- Byte j of a hash. -/
def outB (h : Nat → BitVec 32) (j : Nat) : Nat := nv (h (j / 4)) / 256 ^ (3 - j % 4) % 256
/-- The hash of N bytes. -/
def shaN (f : Nat → Nat) (N : Nat) : Nat → Nat := outB (hashN (padF f N) ((padT N + 8) / 64))
theorem padF_lt (f : Nat → Nat) (hf : ∀ j, f j < 256) (N j : Nat) : padF f N j < 256 := by
  unfold padF
  split
  · exact hf j
  · split
    · omega
    · split
      · omega
      · exact Nat.mod_lt _ (by omega)
theorem repeat0 : ∀ n, Lib.repeatL [0] n = List.replicate n 0
  | 0 => rfl
  | n + 1 => by
    show [0] ++ Lib.repeatL [0] n = _
    rw [repeat0 n]
    rfl
theorem pad_one (f : Nat → Nat) (N fl : Nat) (h : (183 - N % 64) % 64 = fl) : (⟨#[128]⟩ : ByteArray) ++ ⟨(Lib.repeatL [0] fl).toArray⟩ = bstr (fun j => padF f N (N + j)) (1 + fl) := by
  rw [repeat0]
  apply ByteArray.ext
  rw [ByteArray.data_append]
  show #[128] ++ (List.replicate fl 0).toArray = ((List.range (1 + fl)).map fun j => UInt8.ofNat (padF f N (N + j))).toArray
  rw [Nat.add_comm 1 fl, List.range_succ_eq_map, List.map_cons, List.map_map]
  have e1 : padF f N (N + 0) = 128 := by
    unfold padF
    rw [if_neg (by omega), if_pos (by omega)]
  rw [e1]
  have e2 : (List.range fl).map ((fun j => UInt8.ofNat (padF f N (N + j))) ∘ Nat.succ) = List.replicate fl 0 := by
    rw [List.eq_replicate_iff]
    refine ⟨by simp, fun b hb => ?_⟩
    obtain ⟨j, hj, rfl⟩ := List.mem_map.1 hb
    have hj' := List.mem_range.1 hj
    show UInt8.ofNat (padF f N (N + (j + 1))) = 0
    have : padF f N (N + (j + 1)) = 0 := by
      unfold padF padT
      rw [if_neg (by omega), if_neg (by omega), if_pos (by omega)]
    rw [this]
    rfl
  rw [e2, show (#[128] : Array UInt8) = [128].toArray from rfl, List.append_toArray]
  rfl
theorem zero8b : (#[Value.int .u8 0, Value.int .u8 0, Value.int .u8 0, Value.int .u8 0, Value.int .u8 0, Value.int .u8 0, Value.int .u8 0, Value.int .u8 0] : Array Value) = bcells (fun _ => 0) 8 := by kernel_rfl
theorem bstr_congr {f g : Nat → Nat} {m : Nat} (h : ∀ j, j < m → f j = g j) : bstr f m = bstr g m := by
  unfold bstr btext
  congr 2
  apply List.map_congr_left
  intro j hj
  rw [h j (by simpa using hj)]
theorem byte_sh (M k sh : Nat) (hk : k < 8) (h : 56 - 8 * k = sh) : (M : Int) / 2 ^ sh % 256 = ((M / 256 ^ (7 - k) % 256 : Nat) : Int) := by
  rw [Int.natCast_emod, Int.natCast_ediv, Int.natCast_pow, show (256 : Nat) = 2 ^ 8 from rfl, Int.natCast_pow, ← Int.pow_mul, show 8 * (7 - k) = sh by omega]
  rfl
theorem outB_four (h : Nat → BitVec 32) (k : Nat) : bl (outB h) (4 * k) ++ [.int .u8 ((nv (h k) : Int) / 16777216 % 256), .int .u8 ((nv (h k) : Int) / 65536 % 256), .int .u8 ((nv (h k) : Int) / 256 % 256), .int .u8 ((nv (h k) : Int) % 256)] = bl (outB h) (4 * (k + 1)) := by
  rw [show 4 * (k + 1) = 4 * k + 4 by omega, ← bl_add]
  congr 1
  have e : ∀ i, i < 4 → outB h (4 * k + i) = nv (h k) / 256 ^ (3 - i) % 256 := fun i hi => by
    unfold outB
    rw [show (4 * k + i) / 4 = k by omega, show (4 * k + i) % 4 = i by omega]
  show _ = [Value.int .u8 (outB h (4 * k + 0)), .int .u8 (outB h (4 * k + 1)), .int .u8 (outB h (4 * k + 2)), .int .u8 (outB h (4 * k + 3))]
  rw [e 0 (by omega), e 1 (by omega), e 2 (by omega), e 3 (by omega)]
  simp
theorem cell_four_new (w : World) (a b c d : Value) (t : TypeId) : ∀ j u, [a, b, c, d][j]? = some u → (w.alloc (.cells #[a, b, c, d] t)).cell? ((⟨w.heap.size, 0, none⟩ : Addr).add j) = some u := by
  intro j u hj
  match j, hj with
  | 0, hj => simp at hj; subst hj; simp [Addr.add]
  | 1, hj => simp at hj; subst hj; simp [Addr.add]
  | 2, hj => simp at hj; subst hj; simp [Addr.add]
  | 3, hj => simp at hj; subst hj; simp [Addr.add]
  | (j + 4), hj => simp at hj
theorem StAt.stream {w : World} {T e p B : Nat} {f g : Nat → Nat} {N n : Nat} {v : Value} (h : StAt w T e p B f N n v) (hfg : ∀ j, j < N → f j = g j) : StAt w T e p B g N n v := by
  refine ⟨?_, ?_⟩
  · rw [← hashN_congr (f := f) (g := g) _ (fun j hj => hfg j (by omega))]; exact h.cells
  · rw [← bl_congr (f := fun j => f (64 * (N / 64) + j)) (fun j hj => hfg _ (by omega))]; exact h.row
end Go.Num
namespace Go.Proofs.Ytggbjpebdmlahaa
open Go.RowKit Go.Mono Go.Num
set_option maxRecDepth 8000 in
set_option maxHeartbeats 400000 in
theorem new_any (f : Nat → Nat) (w : World) :
    Calls Try.prog 44 #[] w fun e w' => ∃ p, e = .returned (.pointer (some ⟨p, 0, none⟩)) ∧ w.heap.size ≤ p ∧ StAt w' 92 5 p w.heap.size f 0 0 (.slice none 0 0) ∧ Below w.heap.size w w' ∧ w'.heap.size = p + 1 := by
  go_enter Try.func44, Try.ntmps44
  go_wp2_with (go_at_call 62; refine (first_any _).mono ?_; rintro e w1 ⟨rfl, hb1⟩; rw [wcells8])
  go_ret
  refine ⟨_, rfl, hb1.size, ⟨hp_new _ rfl, World.ownsRow_nil _ _ _ _⟩, hb1.alloc hb1.size _, by simp⟩
set_option maxHeartbeats 400000 in
theorem run_index_h (H : Nat → BitVec 32) (k : Nat) (w : World) (hk : k < 8) : (Instr.index 89 (.agg (wcells H 8)) (.int .i64 k)).run Try.prog w = .ok (.int .u32 (nv (H k))) w := by
  have h8 : k = 0 ∨ k = 1 ∨ k = 2 ∨ k = 3 ∨ k = 4 ∨ k = 5 ∨ k = 6 ∨ k = 7 := by omega
  rw [wcells8]
  rcases h8 with rfl | rfl | rfl | rfl | rfl | rfl | rfl | rfl <;> (simp only [Instr.index]; go_simp)
set_option maxRecDepth 8000 in
set_option maxHeartbeats 1000000 in
theorem stSum_any (p B N : Nat) (f : Nat → Nat) (v : Value) (w : World) (hf : ∀ j, f j < 256) (hsz : N < 100000000000) (hst : StAt w 92 5 p B f N N v) :
    Calls Try.prog 46 #[.pointer (some ⟨p, 0, none⟩)] w fun e w' => e = .returned (.string (bstr (shaN f N) 32)) ∧ Below w.heap.size w w' := by
  obtain ⟨i0, hi0, hz0, hz1, hz2⟩ := info_parts info_byte
  have hcl := hst.cells
  have hrow := hst.row
  go_enter Try.func46, Try.ntmps46
  go_upto_region 3 with (fail)
  refine wp_region_pk [4, 9, 11] [0, 1, 2, 3, 5, 6, 7, 8, 4, 9, 10, 11] 12 (fun W => W.heap[p]? = some (.cells (stCells (hashN f (N / 64)) v N) 92)) (by kernel_rfl) (by kernel_rfl) (fun _ _ _ _ _ h => h) (hp_drew hcl) ?_
  simp only [picks, List.filterMap_cons, List.filterMap_nil, List.getElem?_cons_succ, List.getElem?_cons_zero, Option.map_some, List.drop_succ_cons, List.drop_zero]
  iterate 3
    apply pk_val rfl rfl rfl
    case h => (intro w1 hC; clear hC; go_simp; rfl)
    simp only [Act.put, List.setIfInBounds_toArray, List.set_cons_zero, List.set_cons_succ]
  refine pk_val (v := .agg (wcells (hashN f (N / 64)) 8)) rfl rfl rfl (fun w1 hC => by
    have c0 := st_h0 hC; have c1 := st_h1 hC; have c2 := st_h2 hC; have c3 := st_h3 hC; have c4 := st_h4 hC; have c5 := st_h5 hC; have c6 := st_h6 hC; have c7 := st_h7 hC
    clear hC
    go_simp
    rfl) ?_
  simp only [Act.put, List.setIfInBounds_toArray, List.set_cons_zero, List.set_cons_succ]
  iterate 4
    apply pk_val rfl rfl rfl
    case h => (intro w1 hC; have c8 := st_v hC; clear hC; go_simp; rfl)
    simp only [Act.put, List.setIfInBounds_toArray, List.set_cons_zero, List.set_cons_succ]
  have lp := Go.Mono.lt_of_some hcl
  have hown0 : (w.alloc (.cells #[] 5)).drew.ownsRow w.heap.size 5 1 (.slice (some ⟨w.heap.size, 0, none⟩) 0 0) 0 [] := World.ownsRow_lit (base := w.heap.size) w #[] 0 (Nat.le_refl _) (by decide) rfl
  have hrow1 : (w.alloc (.cells #[] 5)).drew.ownsRow B 5 1 v (N % 64) (bl (fun j => f (64 * (N / 64) + j)) (N % 64)) := hrow.alloc _
  have hcl1 : (w.alloc (.cells #[] 5)).drew.heap[p]? = _ := hp_old _ hcl
  have hb1 : Below w.heap.size w (w.alloc (.cells #[] 5)).drew := ((Below.refl _ _).alloc (Nat.le_refl _) _).drew
  obtain ⟨v2, w2, hr2, hown2, hgr2⟩ := run_append_rows (P := Try.prog) w.heap.size B 22 22 5 i0 (.int .u8 0) 1 Try.underlying22 hi0 hz0 hz1 hz2 rfl _ v 0 (N % 64) _ _ hown0 hrow1 (bl_one _ _) (by unfold maxLen; omega) (by omega) (by simp)
  rw [Nat.zero_add, List.nil_append] at hown2
  obtain ⟨a2, c2, rfl⟩ := own_form hown2
  have hb2 : Below w.heap.size w w2 := hb1.grown hgr2 (by simp) (fun k hk => by simp [Value.ownBlock] at hk; omega)
  have hcl2 : w2.heap[p]? = some (.cells (stCells (hashN f (N / 64)) v N) 92) := by
    rw [hgr2.block p (by simp; omega) (by simp [Value.ownBlock]; omega)]
    exact hcl1
  refine pk_run (v := .slice (some ⟨w.heap.size, 0, none⟩) 0 0) (w' := (w.alloc (.cells #[] 5)).drew) rfl rfl rfl (by go_simp) hcl1 ?_
  simp only [Act.put, List.setIfInBounds_toArray, List.set_cons_zero, List.set_cons_succ]
  refine pk_run rfl rfl rfl (exec_append rfl rfl rfl hr2) hcl2 ?_
  simp only [Act.put, List.setIfInBounds_toArray, List.set_cons_zero, List.set_cons_succ]
  refine pk_val (v := .agg (stCells (hashN f (N / 64)) (.slice a2 (N % 64) c2) 0)) rfl rfl rfl (fun w1 hC => by
    clear hC
    rw [wcells8]
    go_simp
    rfl) ?_
  simp only [Act.put, List.setIfInBounds_toArray, List.set_cons_zero, List.set_cons_succ]
  refine pk_run (v := .pointer (some ⟨w2.heap.size, 0, none⟩)) (w' := w2.alloc (.cells (stCells (hashN f (N / 64)) (.slice a2 (N % 64) c2) 0) 92)) rfl rfl rfl (by go_simp) (hp_old _ hcl2) ?_
  simp only [Act.put, List.setIfInBounds_toArray, List.set_cons_zero, List.set_cons_succ]
  refine pk_nil ?_
  have lq : w.heap.size ≤ w2.heap.size := hb2.size
  have hst3 : StAt (w2.alloc (.cells (stCells (hashN f (N / 64)) (.slice a2 (N % 64) c2) 0) 92)) 92 5 w2.heap.size w.heap.size f N 0 (.slice a2 (N % 64) c2) := ⟨hp_new _ rfl, hown2.alloc _⟩
  have hcl3 := hp_old (.cells (stCells (hashN f (N / 64)) (.slice a2 (N % 64) c2) 0) 92) hcl2
  have hb3 := hb2.alloc lq (.cells (stCells (hashN f (N / 64)) (.slice a2 (N % 64) c2) 0) 92)
  have lq3 : w2.heap.size < (w2.alloc (.cells (stCells (hashN f (N / 64)) (.slice a2 (N % 64) c2) 0) 92)).heap.size := by simp
  clear hr2 hown2 hgr2 hcl2 hb2 hown0 hrow1 hcl1 hb1
  generalize w2.alloc (.cells (stCells (hashN f (N / 64)) (.slice a2 (N % 64) c2) 0) 92) = w3 at *
  generalize w2.heap.size = q at *
  repeat (first
    | (refine seq_not rfl ?_
       simp only [Act.put, List.setIfInBounds_toArray, List.set_cons_zero, List.set_cons_succ])
    | (apply seq_val rfl
       case h => (go_simp; first | (simp only [bv_wrap, bv_xor, bv_and, bv_or, bv_add, bw_add, bv_not, bv_sgn, bv_nots, bv_shl24, bv_shl16, bv_shl8, bw_shl24, bw_shl16, bw_shl8, bv_shr3, bv_shr10]; rfl) | simp only [bv_wrap, bv_xor, bv_and, bv_or, bv_add, bw_add, bv_not, bv_sgn, bv_nots, bv_shl24, bv_shl16, bv_shl8, bw_shl24, bw_shl16, bw_shl8, bv_shr3, bv_shr10] | rfl)
       simp only [Act.put, List.setIfInBounds_toArray, List.set_cons_zero, List.set_cons_succ]))
  refine wpList_nil ?_
  obtain ⟨r, hr⟩ : ∃ r, N % 64 = r := ⟨_, rfl⟩
  obtain ⟨k183, hk183⟩ : ∃ k, 183 - r = k := ⟨_, rfl⟩
  obtain ⟨fl, hfl⟩ : ∃ k, k183 % 64 = k := ⟨_, rfl⟩
  have c8 := st_v hst3.cells
  rw [hr] at c8 ⊢
  have e4 : wrap64 (183 - (r : Int)) = (k183 : Int) := by unfold wrap64; omega
  have e5 : (183 - (r : Int)) % 64 = (fl : Int) := by omega
  go_upto_region 5 with (fail)
  refine wp_region_lit ?_
  repeat (first
    | (refine seq_not rfl ?_
       simp only [Act.put, List.setIfInBounds_toArray, List.set_cons_zero, List.set_cons_succ])
    | (apply seq_val rfl
       case h => (go_simp; first | (simp only [bv_wrap, bv_xor, bv_and, bv_or, bv_add, bw_add, bv_not, bv_sgn, bv_nots, bv_shl24, bv_shl16, bv_shl8, bw_shl24, bw_shl16, bw_shl8, bv_shr3, bv_shr10]; rfl) | simp only [bv_wrap, bv_xor, bv_and, bv_or, bv_add, bw_add, bv_not, bv_sgn, bv_nots, bv_shl24, bv_shl16, bv_shl8, bw_shl24, bw_shl16, bw_shl8, bv_shr3, bv_shr10] | rfl)
       simp only [Act.put, List.setIfInBounds_toArray, List.set_cons_zero, List.set_cons_succ]))
  refine seq_call rfl (by first | (go_simp; done) | (go_simp; rfl)) (Try.strings_Repeat ⟨#[0]⟩ fl _ (by omega) (by show 1 * fl ≤ _; omega)) ?_
  intro w4 hC
  simp only [Act.put, List.setIfInBounds_toArray, List.set_cons_zero, List.set_cons_succ]
  have hfl2 : (183 - N % 64) % 64 = fl := by omega
  clear e4 e5
  have hcat := pad_one f N fl hfl2
  have hlen : ¬ 9223372036854775807 < 1 + (Lib.repeatL [0] fl).length := by rw [repeat0, List.length_replicate]; omega
  apply seq_val rfl
  case h =>
    go_simp
    rfl
  simp only [Act.put, List.setIfInBounds_toArray, List.set_cons_zero, List.set_cons_succ]
  have hst4 : StAt w4 92 5 q w.heap.size (padF f N) N 0 (.slice a2 (N % 64) c2) := (hst3.keep (hC.block q lq3) (fun g hg => hC.block g (hst3.row.lt g hg).2)).stream (fun j hj => by unfold padF; rw [if_pos hj])
  have hcl4 := keep hC hcl3
  replace hb3 := below_tr' hb3 hC
  have lq4 := Nat.lt_of_lt_of_le lq3 hC.size
  clear hst3 hcl3 lq3 hcat hlen
  refine seq_callR rfl (by first | (go_simp; done) | (go_simp; rfl)) (write_any q w.heap.size (1 + fl) N 0 (padF f N) _ w4 (padF_lt f hf N) (by omega) (by omega) hst4 (by omega)) ?_
  intro w5 hR
  simp only [Act.put, List.setIfInBounds_toArray, List.set_cons_zero, List.set_cons_succ]
  obtain ⟨v5, hst5, hfr5⟩ := hR
  have hb45 : Below w.heap.size w4 w5 := hfr5.below (by have := hb3.size; omega) (fun k hk => by rcases hk with h | h <;> omega)
  have hcl5 : w5.heap[p]? = some (.cells (stCells (hashN f (N / 64)) v N) 92) := by rw [hb45.block p (by omega)]; exact hcl4
  replace hb3 := hb3.trans hb45
  have lq5 := Nat.lt_of_lt_of_le lq4 hfr5.size
  rw [Nat.zero_add] at hst5
  clear hst4 hfr5 hb45 hcl4 lq4
  refine wpList_nil ?_
  have c9 := st_n hcl5
  have e6 : IntKind.u64.wrap (N : Int) = (N : Int) := by simp [IntKind.wrap, IntKind.bits, IntKind.signed]; omega
  obtain ⟨M8, hM8⟩ : ∃ M, 8 * N = M := ⟨_, rfl⟩
  have e7 : IntKind.u64.wrap ((N : Int) * 8) = (M8 : Int) := by simp [IntKind.wrap, IntKind.bits, IntKind.signed]; omega
  go_upto_region 8 with (fail)
  rw [zero8b]
  have hs5 : w5.heap.size = w5.heap.size := rfl
  obtain ⟨w6, hq_w6⟩ : ∃ w6, (w5.alloc (.cells (bcells (fun _ => 0) 8) 97)) = w6 := ⟨_, rfl⟩
  have hA : w6.heap[w5.heap.size]? = some (.cells (bcells (fun _ => 0) 8) 97) := by rw [← hq_w6]; exact hp_new _ (by simp)
  have hs_w6 : w6.heap.size = w5.heap.size + 1 := by rw [← hq_w6]; simp
  have hw_w6 : Below w5.heap.size w5 w6 := by rw [← hq_w6]; exact (Below.refl w5.heap.size w5).alloc (Nat.le_refl _) _
  rw [hq_w6]
  clear hq_w6
  have hst6 : StAt w6 92 5 q w.heap.size (padF f N) (N + (1 + fl)) (1 + fl) v5 := hst5.keep (hw_w6.block q lq5) (fun g hg => hw_w6.block g (hst5.row.lt g hg).2)
  replace hb3 := below_tr' hb3 hw_w6
  have lq6 : q < w6.heap.size := by omega
  have hA5 : w.heap.size ≤ w5.heap.size := by omega
  have hAq : w5.heap.size ≠ q := by omega
  clear hst5 hcl5 c9 hw_w6 lq5 hs5
  obtain ⟨A, hAe⟩ : ∃ A, w5.heap.size = A := ⟨_, rfl⟩
  rw [hAe] at hA hs_w6 hA5 hAq ⊢
  have hv5A : v5.ownBlock ≠ some A := own_ne hst6.row hA (by decide)
  clear e6 e7 hAe
  go_wp2_with fail
  go_loopw [43] (fun i wr => ∃ k : Nat, k ≤ 8 ∧ i = .int .i64 k ∧ wr.heap[A]? = some (.cells (bcells (fun j => if j < k then M8 / 256 ^ (7 - j) % 256 else 0) 8) 97) ∧ Fr (fun k => k = A) w6 wr) (fun i _ => 8 - (intOf i).toNat)
  case atStart => exact ⟨0, by omega, rfl, by rw [bcells_congr (g := fun _ => 0) (fun j _ => by simp)]; exact hA, Fr.refl _ _⟩
  case round =>
    clear hA
    obtain ⟨k, hk, rfl, hA, hfr⟩ := hrel
    by_cases hlt : k < 8
    · have hlt' : (k : Int) < 8 := by omega
      have ca := bcells_at hA k hlt
      have cf := frozen_of hA k
      obtain ⟨sh, hsh⟩ : ∃ s, 56 - 8 * k = s := ⟨_, rfl⟩
      have e1 : IntKind.i64.wrap (56 - 8 * (k : Int)) = (sh : Int) := by rw [wrap_i64]; omega
      have e1b : wrap64 (56 - 8 * (k : Int)) = (sh : Int) := by unfold wrap64; omega
      have e1c : (56 - 8 * (k : Int)) = (sh : Int) := by omega
      go_wp2_with fail
      have hv := byte_sh M8 k sh hlt hsh
      have hA2 := hp_set (o := k) (v := .int .u8 ((M8 : Int) / 2 ^ sh % 256)) hA
      rw [hv, bcells_step (fun j => M8 / 256 ^ (7 - j) % 256)] at hA2
      have hfr2 := hfr.setCell (p := ⟨A, k, none⟩) rfl (.int .u8 ((M8 : Int) / 2 ^ sh % 256))
      rw [← hv] at hA2
      clear hv ca cf hA hfr
      go_roundw
      case rel => exact ⟨k + 1, by omega, by go_num, hA2, hfr2⟩
      case measure => simp [intOf]; omega
    · obtain rfl : k = 8 := by omega
      clear hlt hk
      rw [show ((8 : Nat) : Int) = (8 : Int) from rfl]
      rw [bcells_congr (g := fun j => padF f N (N + (1 + fl) + j)) (fun j hj => by
        rw [if_pos hj]
        unfold padF padT
        rw [if_neg (by omega), if_neg (by omega), if_neg (by omega), hM8]
        congr 3
        omega)] at hA
      have hst := run_bstr (P := Try.prog) (c := 8) hA Try.underlying22 Try.underlying5 Try.underlying9
      have hst7 : StAt wr 92 5 q w.heap.size (padF f N) (N + (1 + fl)) (1 + fl) v5 := hst6.keep (hfr.block q lq6 (by omega)) (fun g hg => hfr.block g (hst6.row.lt g hg).2 (fun e => hv5A (e ▸ hg)))
      have hszw := hfr.size
      have hbr : Below w.heap.size w wr := hb3.trans (hfr.below (by omega) (fun k hk => by omega))
      go_upto_region 13 with (fail)
      refine wp_region_lit ?_
      repeat (first
        | (refine seq_not rfl ?_
           simp only [Act.put, List.setIfInBounds_toArray, List.set_cons_zero, List.set_cons_succ])
        | (apply seq_val rfl
           case h => (go_simp; first | (simp only [bv_wrap, bv_xor, bv_and, bv_or, bv_add, bw_add, bv_not, bv_sgn, bv_nots, bv_shl24, bv_shl16, bv_shl8, bw_shl24, bw_shl16, bw_shl8, bv_shr3, bv_shr10]; rfl) | simp only [bv_wrap, bv_xor, bv_and, bv_or, bv_add, bw_add, bv_not, bv_sgn, bv_nots, bv_shl24, bv_shl16, bv_shl8, bw_shl24, bw_shl16, bw_shl8, bv_shr3, bv_shr10] | rfl)
           simp only [Act.put, List.setIfInBounds_toArray, List.set_cons_zero, List.set_cons_succ]))
      refine seq_callR rfl (by first | (go_simp; done) | (go_simp; rfl)) (write_any q w.heap.size 8 (N + (1 + fl)) (1 + fl) (padF f N) v5 wr (padF_lt f hf N) (by omega) (by omega) hst7 (by omega)) ?_
      intro w8 hR
      simp only [Act.put, List.setIfInBounds_toArray, List.set_cons_zero, List.set_cons_succ]
      obtain ⟨v8, hst8, hfr8⟩ := hR
      have hb8 : Below w.heap.size w w8 := hbr.trans (hfr8.below (by omega) (fun k hk => by rcases hk with h | h <;> omega))
      refine wpList_nil ?_
      have hcl8 := hst8.cells
      have hC8 : (N + (1 + fl) + 8) / 64 = (padT N + 8) / 64 := by unfold padT; congr 1; omega
      rw [hC8] at hcl8
      obtain ⟨H, hH⟩ : ∃ H, hashN (padF f N) ((padT N + 8) / 64) = H := ⟨_, rfl⟩
      rw [hH] at hcl8
      have HH : Hid (shaN f N = outB H) := by unfold shaN; rw [hH]; rfl
      have lw8 := hb8.size
      clear hst7 hfr8 hbr hst hst8 hst6 hb3 hfr hA hH
      go_upto_region 15 with (fail)
      refine wp_region_lit ?_
      repeat (first
        | (refine seq_not rfl ?_
           simp only [Act.put, List.setIfInBounds_toArray, List.set_cons_zero, List.set_cons_succ])
        | (apply seq_val rfl
           case h => (go_simp; first | (simp only [bv_wrap, bv_xor, bv_and, bv_or, bv_add, bw_add, bv_not, bv_sgn, bv_nots, bv_shl24, bv_shl16, bv_shl8, bw_shl24, bw_shl16, bw_shl8, bv_shr3, bv_shr10]; rfl) | simp only [bv_wrap, bv_xor, bv_and, bv_or, bv_add, bw_add, bv_not, bv_sgn, bv_nots, bv_shl24, bv_shl16, bv_shl8, bw_shl24, bw_shl16, bw_shl8, bv_shr3, bv_shr10] | rfl)
           simp only [Act.put, List.setIfInBounds_toArray, List.set_cons_zero, List.set_cons_succ]))
      refine seq_val (v := .agg (wcells H 8)) rfl (by
        have c0 := st_h0 hcl8; have c1 := st_h1 hcl8; have c2 := st_h2 hcl8; have c3 := st_h3 hcl8; have c4 := st_h4 hcl8; have c5 := st_h5 hcl8; have c6 := st_h6 hcl8; have c7 := st_h7 hcl8
        go_simp
        rfl) ?_
      simp only [Act.put, List.setIfInBounds_toArray, List.set_cons_zero, List.set_cons_succ]
      repeat (first
        | (refine seq_not rfl ?_
           simp only [Act.put, List.setIfInBounds_toArray, List.set_cons_zero, List.set_cons_succ])
        | (apply seq_val rfl
           case h => (go_simp; first | (simp only [bv_wrap, bv_xor, bv_and, bv_or, bv_add, bw_add, bv_not, bv_sgn, bv_nots, bv_shl24, bv_shl16, bv_shl8, bw_shl24, bw_shl16, bw_shl8, bv_shr3, bv_shr10]; rfl) | simp only [bv_wrap, bv_xor, bv_and, bv_or, bv_add, bw_add, bv_not, bv_sgn, bv_nots, bv_shl24, bv_shl16, bv_shl8, bw_shl24, bw_shl16, bw_shl8, bv_shr3, bv_shr10] | rfl)
           simp only [Act.put, List.setIfInBounds_toArray, List.set_cons_zero, List.set_cons_succ]))
      refine wpList_nil ?_
      go_wp2_with fail
      go_loopw [8, 63] (fun vb vi wr => ∃ k : Nat, k ≤ 8 ∧ vi = .int .i64 k ∧ wr.ownsRow w8.heap.size 5 1 vb (4 * k) (bl (outB H) (4 * k)) ∧ Below w8.heap.size w8 wr) (fun _ vi _ => 8 - (intOf vi).toNat)
      case atStart => exact ⟨0, by omega, rfl, World.ownsRow_nil _ _ _ _, Below.refl _ _⟩
      case round =>
        obtain ⟨k, hk, rfl, hown, hw⟩ := hrel
        by_cases hlt : k < 8
        · have hlt' : (k : Int) < 8 := by omega
          have hidx := run_index_h H k wr hlt
          have hws := hw.size
          go_upto_region 18 with (fail)
          have htwo := outB_four H k
          go_wp2_with (first
            | (at_builtin; refine wpList_append_own _ rfl _ _ 22 rfl w8.heap.size 5 i0 (.int .u8 0) 1 1 Try.underlying22 hi0 hz0 hz1 hz2 rfl (by decide) _ _ _ rfl (hown.alloc _) ⟨wr.heap.size, 0, none⟩ 4 4 [.int .u8 ((nv (H k) : Int) / 16777216 % 256), .int .u8 ((nv (H k) : Int) / 65536 % 256), .int .u8 ((nv (H k) : Int) / 256 % 256), .int .u8 ((nv (H k) : Int) % 256)] rfl rfl (cell_four_new _ _ _ _ _ _) (fun x hx => by simp at hx; rcases hx with rfl | rfl | rfl | rfl <;> rfl) (by unfold maxLen; omega) (by omega) (by simp; omega) ?_; intro v' w9 hown' hgrow9 hnil9
               have hbw9 : Below w8.heap.size w8 w9 := Below.grown (hw.alloc (by omega) _) hgrow9 (by simp; omega) (fun j hj => by have := (hown.lt _ hj).1; omega)
               have X : Aside (w9.ownsRow w8.heap.size 5 1 v' (4 * k + 4) (bl (outB H) (4 * (k + 1))) ∧ Below w8.heap.size w8 w9) := ⟨htwo ▸ hown', hbw9⟩
               clear hown' hgrow9 hnil9 hbw9))
          go_roundw
          case rel => exact ⟨k + 1, by omega, by go_num, X.out.1, X.out.2⟩
          case measure => simp [intOf]; omega
        · obtain rfl : k = 8 := by omega
          have hst := run_ownedB (P := Try.prog) hown (by decide) Try.underlying22 Try.underlying5 Try.underlying9
          go_wp2_with fail
          go_ret
          exact ⟨by rw [HH.out]; rfl, below_tr' hb8 hw⟩
set_option maxRecDepth 8000 in
set_option maxHeartbeats 400000 in
theorem sum_any (f : Nat → Nat) (m : Nat) (w : World) (hf : ∀ j, f j < 256) (hsz : m < 100000000000) :
    Calls Try.prog 25 #[.string (bstr f m)] w fun e w' => e = .returned (.string (bstr (shaN f m) 32)) ∧ Below w.heap.size w w' := by
  have hg : ∀ j, (fun j => f (0 + j)) j < 256 := fun j => hf _
  have e0 : (fun j => f (0 + j)) = f := funext fun j => by rw [Nat.zero_add]
  go_enter Try.func25, Try.ntmps25
  go_wp2_with (first
    | (go_at_call 44; refine (new_any f _).mono ?_; rintro e w1 ⟨p, rfl, hp, hst, hb1, hs1⟩)
    | (go_at_call 45; refine ((e0 ▸ write_any p w.heap.size m 0 0 f (.slice none 0 0) w1 hf (by omega) (by omega) hst hb1.size)).mono ?_; rintro e w2 ⟨rfl, v2, hst2, hfr2⟩; rw [Nat.zero_add] at hst2)
    | (go_at_call 46; refine (stSum_any p w.heap.size m f v2 w2 hf hsz hst2).mono ?_; rintro e w3 ⟨rfl, hb3⟩))
  go_ret
  refine ⟨rfl, below_tr' (hb1.trans (hfr2.below hb1.size (fun k hk => by rcases hk with h | h <;> omega))) hb3⟩
end Go.Proofs.Ytggbjpebdmlahaa
