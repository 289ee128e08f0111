/- point.From. No conditions. -/
import Derived.Test.YtdhaedjmlddjcaaAcross
import Derived.Laws.BitsAllLaws
namespace Go.Num
open Go Go.RowKit
/-- A result that lies in a block, and one that lies in a temporary. -/
theorem results2_blk {P : Program} {fn : Func} {r r2 : Tmp} {ty : TypeId} {tmps : Array Value} {w : World} {b : Nat} {c : Array Value} {t : TypeId} {z : Nat × Nat} {d : TypeDesc} {v : Value} (h : fn.results = #[.cell r ty, .tmp r2]) (ht : tmps.getD r undef = .pointer (some ⟨b, 0, none⟩))
    (hv : tmps.getD r2 undef = v) (hb : w.heap[b]? = some (.cells c t z)) (hu : P.underlying ty = some d) (hd : d.isRow = true) (hi : (P.info? ty).map (·.size) = some c.size) : (results fn tmps).run P w = .ok (.tuple #[.agg c, v]) w := by
  have hr := World.rangeAt_of_block hb 0 c.size
  rw [Nat.zero_add] at hr
  have hl := run_loadVar_mid (P := P) w b 0 ty (c.extract 0 c.size).toList d hr hu hd (by simpa using hi)
  have ht' : tmps[r]?.getD undef = .pointer (some ⟨b, 0, none⟩) := by simpa using ht
  have hv' : tmps[r2]?.getD undef = v := by simpa using hv
  have hl' : Sem.run P (loadVar ty ⟨b, 0, none⟩) w = .ok (.agg c) w := by rw [hl]; simp
  simp [results, h, ht', hv', asAddr, hl']
end Go.Num
namespace Go.Proofs.Ytdhaedjmlddjcaa
open Go.RowKit Go.Mono Go.Num
def gAt (f : Nat → Nat) (j : Nat) : Nat := if j = 31 then f 31 % 128 else f j
def fromN (f : Nat → Nat) : Nat := numOf (gAt f) 32
def fromOkY (f : Nat → Nat) : Bool := eqN (fnorm (fromN f)) (fromN f)
def fromY (f : Nat → Nat) : Nat := if fromOkY f then fromN f else 0
def fromX0 (f : Nat → Nat) : Nat := rootN (acrossA (fromY f))
def fromX (f : Nat → Nat) : Nat := if 128 ≤ f 31 then fsub 0 (fromX0 f) else fromX0 f
def fromSame (f : Nat → Nat) : Bool := (bstr (pbyte (fromX f) (fromY f)) 32).toList == (bstr f 32).toList
def fromOk (f : Nat → Nat) : Bool := fromOkY f && (rootOk (acrossA (fromY f)) && (onB (fromX f) (fromY f) && fromSame f))
theorem gAt_lt (f : Nat → Nat) (hf : ∀ j, f j < 256) (j : Nat) : gAt f j < 256 := by
  unfold gAt
  have := hf j
  split <;> omega
theorem fromY_lt (f : Nat → Nat) (hf : ∀ j, f j < 256) : fromY f < W ^ 4 := by
  unfold fromY
  split
  · exact numOf_lt _ (gAt_lt f hf) 32
  · decide
theorem rootN_lt (a : Nat) : rootN a < p := by
  have hB : rootB a < p := by
    unfold rootB
    split
    · exact powF_lt _ _
    · exact fmul_lt _ _
  unfold rootN
  split
  · split
    · exact fsub_lt _ _
    · exact hB
  · decide
theorem fromX_lt (f : Nat → Nat) : fromX f < p := by
  unfold fromX
  split
  · exact fsub_lt _ _
  · exact rootN_lt _
set_option maxHeartbeats 1000000 in
theorem pfrom_any (f : Nat → Nat) (w : World) (hf : ∀ j, f j < 256) :
    Calls Try.prog 23 #[.string (bstr f 32)] w fun e w' => e = .returned (.tuple #[pt (if fromOk f then fromX f else 0) (if fromOk f then fromY f else 0), .bool (fromOk f)]) ∧ Below w.heap.size w w' := by
  have hsz := bstr_size f 32
  have hY := fromY_lt f hf
  have hX := lt_W (fromX_lt f)
  have hfr := fun w => ffrom_any (gAt f) w (gAt_lt f hf)
  have hac := fun w => across_any (fromY f) w hY
  have hsb := fun w => sub_f 0 (fromX0 f) w (by decide) (lt_W (rootN_lt _))
  have hon := fun w => on_any (fromX f) (fromY f) w hX hY
  have hpb := fun w => pbytes_any (fromX f) (fromY f) w hY
  rw [num_zero] at hsb
  replace hfr : ∀ w, Calls Try.prog 47 #[.string (bstr (gAt f) 32)] w fun e w' => e = .returned (.tuple #[num (fromY f), .bool (fromOkY f)]) ∧ Below w.heap.size w w' := hfr
  replace hac : ∀ w, Calls Try.prog 48 #[num (fromY f)] w fun e w' => e = .returned (.tuple #[num (fromX0 f), .bool (rootOk (acrossA (fromY f)))]) ∧ Below w.heap.size w w' := hac
  have hXe : (if 128 ≤ f 31 then fsub 0 (fromX0 f) else fromX0 f) = fromX f := rfl
  have hsm : ((bstr (pbyte (fromX f) (fromY f)) 32).toList == (bstr f 32).toList) = fromSame f := rfl
  unfold fromOk
  generalize rootOk (acrossA (fromY f)) = IS at *
  generalize fromOkY f = OKY at *
  generalize onB (fromX f) (fromY f) = ON at *
  generalize bstr (pbyte (fromX f) (fromY f)) 32 = T at *
  generalize fromSame f = SM at *
  generalize fromX f = X at *
  generalize fromY f = Y at *
  generalize fsub 0 (fromX0 f) = NX at *
  generalize fromX0 f = X0 at *
  have HXe := Lib.hid hXe
  clear hXe hX hY
  have hg : (fun j => if j = 31 then f 31 % 128 else f j) = gAt f := rfl
  have h31 := hf 31
  have hand : bits .andNot .u8 ((f 31 : Nat) : Int) 128 = ((f 31 % 128 : Nat) : Int) := by
    have h := u8_andNot_nat (f 31) 128 h31 (by decide)
    rw [show ((128 : Nat) : Int) = 128 from rfl] at h
    rw [h]; congr 1; exact Nat.and_two_pow_sub_one_eq_mod (f 31) 7
  go_enter Try.func23, Try.ntmps23
  go_wp2_with fail
  obtain ⟨w0, hq_w0⟩ : ∃ w0, (w.alloc (.cells #[.int .u64 0, .int .u64 0, .int .u64 0, .int .u64 0, .int .u64 0, .int .u64 0, .int .u64 0, .int .u64 0] 28)) = w0 := ⟨_, rfl⟩
  have hR : w0.heap[w.heap.size]? = some (.cells #[.int .u64 0, .int .u64 0, .int .u64 0, .int .u64 0, .int .u64 0, .int .u64 0, .int .u64 0, .int .u64 0] 28) := by rw [← hq_w0]; exact hp_new _ (by simp)
  have hs_w0 : w0.heap.size = w.heap.size + 1 := by rw [← hq_w0]; simp
  have hw_w0 : Below w.heap.size w w0 := by rw [← hq_w0]; exact (Below.refl w.heap.size w).alloc (Nat.le_refl _) _
  rw [hq_w0]
  clear hq_w0
  obtain ⟨c, s, z, w2, hz, hs32, hcv, hs, hb⟩ := run_bytes_new (P := Try.prog) w0 9 49 5 32 f hf Try.underlying9 Try.underlying49 Try.underlying5
  replace hw_w0 := below_tr' hw_w0 hb
  replace hR := keep hb hR
  clear hb
  rw [hs_w0] at hs
  rw [hcv, hs_w0]
  clear hcv hs_w0
  have cs := brow_at hs 31 (by decide)
  have fs := frozen_row hz hs 31 (by omega)
  have hs2 := hp_set (o := 31) (v := .int .u8 ((f 31 % 128 : Nat) : Int)) hs
  rw [brow_set _ (by decide), hg] at hs2
  have hw2 := hw_w0.setCell (p := ⟨w.heap.size + 1, 31, none⟩) (by simp) (.int .u8 ((f 31 % 128 : Nat) : Int))
  have hR2 := hp_set_ne (o := 31) (v := .int .u8 ((f 31 % 128 : Nat) : Int)) (b' := w.heap.size + 1) hR (by omega)
  have hst := run_brow (P := Try.prog) (c := c) hs2 Try.underlying49 Try.underlying5 Try.underlying9
  clear hs hw_w0 hR hs2 hg
  generalize f 31 % 128 = V2 at *
  generalize f 31 = V at *
  simp only [Result.andThen_ok, Oper.upon]
  go_wp2_with fail
  clear cs fs hst hand hz
  generalize hB : decide ((128 : Int) ≤ (V : Int)) = OD at *
  have hXf : (if OD = true then NX else X0) = X := by
    rw [← HXe.out, ← hB]
    by_cases h : 128 ≤ V
    · rw [if_pos h, if_pos (by simpa using (by omega : (128 : Int) ≤ (V : Int)))]
    · rw [if_neg h, if_neg (by simpa using (by omega : ¬ (128 : Int) ≤ (V : Int)))]
  have HXf := Lib.hid hXf
  clear hXf hB HXe
  generalize w2.setCell ⟨w.heap.size + 1, 31, none⟩ (.int .u8 (V2 : Int)) = w3 at *
  refine (hfr _).mono ?_
  rintro e w4 ⟨rfl, hb⟩
  replace hw2 := below_tr' hw2 hb
  replace hR2 := keep hb hR2
  clear hb
  go_wp2_with fail
  have hlR4 := Go.Mono.lt_of_some hR2
  obtain ⟨w5, hq_w5⟩ : ∃ w5, (w4.alloc (.cells #[.int .u64 (wd Y 0), .int .u64 (wd Y 1), .int .u64 (wd Y 2), .int .u64 (wd Y 3)] 26)) = w5 := ⟨_, rfl⟩
  have hY : w5.heap[w4.heap.size]? = some (.cells #[.int .u64 (wd Y 0), .int .u64 (wd Y 1), .int .u64 (wd Y 2), .int .u64 (wd Y 3)] 26) := by rw [← hq_w5]; exact hp_new _ (by simp)
  have hs_w5 : w5.heap.size = w4.heap.size + 1 := by rw [← hq_w5]; simp
  have hw_w5 : Below w4.heap.size w4 w5 := by rw [← hq_w5]; exact (Below.refl w4.heap.size w4).alloc (Nat.le_refl _) _
  rw [hq_w5]
  clear hq_w5
  replace hw2 := below_tr' hw2 hw_w5
  replace hR2 := keep hw_w5 hR2
  clear hw_w5
  have hlY : w.heap.size < w4.heap.size := hlR4
  generalize w4.heap.size = bY at *
  refine (hac _).mono ?_
  rintro e w6 ⟨rfl, hb⟩
  have hlY5 := Go.Mono.lt_of_some hY
  replace hw2 := below_tr' hw2 hb
  replace hR2 := keep hb hR2
  replace hY := keep hb hY
  clear hb
  have hlY6 := Go.Mono.lt_of_some hY
  have hlR6 := Go.Mono.lt_of_some hR2
  have cY := cell4 hY
  clear hfr hac
  cases OD with
  | true =>
    have e : NX = X := by simpa using HXf.out
    subst e
    clear HXf
    go_wp2_with fail
    clear cY
    have hlX : w.heap.size + 1 < w6.heap.size := by have := hw2.size; omega
    obtain ⟨w7, hq_w7⟩ : ∃ w7, (w6.alloc (.cells #[.int .u64 (wd X0 0), .int .u64 (wd X0 1), .int .u64 (wd X0 2), .int .u64 (wd X0 3)] 26)) = w7 := ⟨_, rfl⟩
    have hX : w7.heap[w6.heap.size]? = some (.cells #[.int .u64 (wd X0 0), .int .u64 (wd X0 1), .int .u64 (wd X0 2), .int .u64 (wd X0 3)] 26) := by rw [← hq_w7]; exact hp_new _ (by simp)
    have hs_w7 : w7.heap.size = w6.heap.size + 1 := by rw [← hq_w7]; simp
    have hw_w7 : Below w6.heap.size w6 w7 := by rw [← hq_w7]; exact (Below.refl w6.heap.size w6).alloc (Nat.le_refl _) _
    rw [hq_w7]
    clear hq_w7
    replace hw2 := below_tr' hw2 hw_w7
    replace hR2 := keep hw_w7 hR2
    replace hY := keep hw_w7 hY
    clear hw_w7
    generalize w6.heap.size = bX at *
    refine (hsb _).mono ?_
    rintro e w8 ⟨rfl, hb⟩
    replace hw2 := below_tr' hw2 hb
    replace hR2 := keep hb hR2
    replace hY := keep hb hY
    replace hX := keep hb hX
    clear hb
    rename_i hK_; refine hK_ _ _ ?_; clear hK_
    refine wpList_storeBlk 4 rfl rfl rfl rfl hX rfl rfl (by kernel_rfl) (by kernel_rfl) ?_
    intro w9 s9
    simp only [Act.put]
    replace hw2 := s9.below hw2 (by omega)
    replace hR2 := s9.other hR2 (by omega)
    replace hY := s9.other hY (by omega)
    replace hX := s9.at_
    clear s9
    have cX := cell4 hX
    have cY := cell4 hY
    have hlR9 := Go.Mono.lt_of_some hR2
    have hRP := hp_old (.cells #[.int .u64 (wd NX 0), .int .u64 (wd NX 1), .int .u64 (wd NX 2), .int .u64 (wd NX 3), .int .u64 (wd Y 0), .int .u64 (wd Y 1), .int .u64 (wd Y 2), .int .u64 (wd Y 3)] 28) hR2
    have hwP := hw2.alloc (by omega) (.cells #[.int .u64 (wd NX 0), .int .u64 (wd NX 1), .int .u64 (wd NX 2), .int .u64 (wd NX 3), .int .u64 (wd Y 0), .int .u64 (wd Y 1), .int .u64 (wd Y 2), .int .u64 (wd Y 3)] 28)
    cases OKY with
    | false =>
      go_wp2_with (first | (refine wpList_storeBlk 8 rfl rfl rfl rfl hRP rfl rfl (by kernel_rfl) (by kernel_rfl) ?_; intro w12 s12; simp only [Act.put]))
      exact bodyPost_ret (v := .tuple #[pt 0 0, .bool false]) (results2_blk Try.results23 rfl rfl s12.at_ Try.underlying28 rfl (by kernel_rfl)) rfl ⟨rfl, s12.below (hwP) (by omega)⟩
    | true =>
      cases IS with
      | false =>
        go_wp2_with (first | (refine wpList_storeBlk 8 rfl rfl rfl rfl hRP rfl rfl (by kernel_rfl) (by kernel_rfl) ?_; intro w12 s12; simp only [Act.put]))
        exact bodyPost_ret (v := .tuple #[pt 0 0, .bool false]) (results2_blk Try.results23 rfl rfl s12.at_ Try.underlying28 rfl (by kernel_rfl)) rfl ⟨rfl, s12.below (hwP) (by omega)⟩
      | true =>
        go_wp2_with fail
        obtain ⟨w10, hq_w10⟩ : ∃ w10, (w9.alloc (.cells #[.int .u64 (wd NX 0), .int .u64 (wd NX 1), .int .u64 (wd NX 2), .int .u64 (wd NX 3), .int .u64 (wd Y 0), .int .u64 (wd Y 1), .int .u64 (wd Y 2), .int .u64 (wd Y 3)] 28)) = w10 := ⟨_, rfl⟩
        have hP : w10.heap[w9.heap.size]? = some (.cells #[.int .u64 (wd NX 0), .int .u64 (wd NX 1), .int .u64 (wd NX 2), .int .u64 (wd NX 3), .int .u64 (wd Y 0), .int .u64 (wd Y 1), .int .u64 (wd Y 2), .int .u64 (wd Y 3)] 28) := by rw [← hq_w10]; exact hp_new _ (by simp)
        have hs_w10 : w10.heap.size = w9.heap.size + 1 := by rw [← hq_w10]; simp
        have hw_w10 : Below w9.heap.size w9 w10 := by rw [← hq_w10]; exact (Below.refl w9.heap.size w9).alloc (Nat.le_refl _) _
        rw [hq_w10]
        clear hq_w10
        replace hw2 := below_tr' hw2 hw_w10
        replace hR2 := keep hw_w10 hR2
        clear hw_w10
        clear hRP hwP cY cX
        refine (hon _).mono ?_
        rintro e w18 ⟨rfl, hb⟩
        replace hw2 := below_tr' hw2 hb
        replace hR2 := keep hb hR2
        replace hP := keep hb hP
        clear hb
        have cP := cell_of hP
        cases ON with
        | false =>
          go_wp2_with (first | (refine wpList_storeBlk 8 rfl rfl rfl rfl hR2 rfl rfl (by kernel_rfl) (by kernel_rfl) ?_; intro w12 s12; simp only [Act.put]))
          exact bodyPost_ret (v := .tuple #[pt 0 0, .bool false]) (results2_blk Try.results23 rfl rfl s12.at_ Try.underlying28 rfl (by kernel_rfl)) rfl ⟨rfl, s12.below (hw2) (by omega)⟩
        | true =>
          go_wp2_with fail
          clear cP
          refine (hpb _).mono ?_
          rintro e w19 ⟨rfl, hb⟩
          replace hw2 := below_tr' hw2 hb
          replace hR2 := keep hb hR2
          replace hP := keep hb hP
          clear hb
          have cP := cell_of hP
          cases SM with
          | false =>
            go_wp2_with (first | (refine wpList_storeBlk 8 rfl rfl rfl rfl hR2 rfl rfl (by kernel_rfl) (by kernel_rfl) ?_; intro w12 s12; simp only [Act.put]))
            exact bodyPost_ret (v := .tuple #[pt 0 0, .bool false]) (results2_blk Try.results23 rfl rfl s12.at_ Try.underlying28 rfl (by kernel_rfl)) rfl ⟨rfl, s12.below (hw2) (by omega)⟩
          | true =>
            go_wp2_with (first | (refine wpList_storeBlk 8 rfl rfl rfl rfl hR2 rfl rfl (by kernel_rfl) (by kernel_rfl) ?_; intro w12 s12; simp only [Act.put]))
            exact bodyPost_ret (v := .tuple #[pt NX Y, .bool true]) (results2_blk Try.results23 rfl rfl s12.at_ Try.underlying28 rfl (by kernel_rfl)) rfl ⟨rfl, s12.below (hw2) (by omega)⟩
  | false =>
    have e : X0 = X := by simpa using HXf.out
    subst e
    clear HXf hsb
    have hRP := hp_old (.cells #[.int .u64 (wd X0 0), .int .u64 (wd X0 1), .int .u64 (wd X0 2), .int .u64 (wd X0 3), .int .u64 (wd Y 0), .int .u64 (wd Y 1), .int .u64 (wd Y 2), .int .u64 (wd Y 3)] 28) (hp_old (.cells #[.int .u64 (wd X0 0), .int .u64 (wd X0 1), .int .u64 (wd X0 2), .int .u64 (wd X0 3)] 26) hR2)
    have hwP := (hw2.alloc (by omega) (.cells #[.int .u64 (wd X0 0), .int .u64 (wd X0 1), .int .u64 (wd X0 2), .int .u64 (wd X0 3)] 26)).alloc (by simp; omega) (.cells #[.int .u64 (wd X0 0), .int .u64 (wd X0 1), .int .u64 (wd X0 2), .int .u64 (wd X0 3), .int .u64 (wd Y 0), .int .u64 (wd Y 1), .int .u64 (wd Y 2), .int .u64 (wd Y 3)] 28)
    cases OKY with
    | false =>
      go_wp2_with (first | (refine wpList_storeBlk 8 rfl rfl rfl rfl hRP rfl rfl (by kernel_rfl) (by kernel_rfl) ?_; intro w12 s12; simp only [Act.put]))
      exact bodyPost_ret (v := .tuple #[pt 0 0, .bool false]) (results2_blk Try.results23 rfl rfl s12.at_ Try.underlying28 rfl (by kernel_rfl)) rfl ⟨rfl, s12.below (hwP) (by omega)⟩
    | true =>
      cases IS with
      | false =>
        go_wp2_with (first | (refine wpList_storeBlk 8 rfl rfl rfl rfl hRP rfl rfl (by kernel_rfl) (by kernel_rfl) ?_; intro w12 s12; simp only [Act.put]))
        exact bodyPost_ret (v := .tuple #[pt 0 0, .bool false]) (results2_blk Try.results23 rfl rfl s12.at_ Try.underlying28 rfl (by kernel_rfl)) rfl ⟨rfl, s12.below (hwP) (by omega)⟩
      | true =>
        go_wp2_with fail
        obtain ⟨w7, hq_w7⟩ : ∃ w7, ((w6.alloc (.cells #[.int .u64 (wd X0 0), .int .u64 (wd X0 1), .int .u64 (wd X0 2), .int .u64 (wd X0 3)] 26)).alloc (.cells #[.int .u64 (wd X0 0), .int .u64 (wd X0 1), .int .u64 (wd X0 2), .int .u64 (wd X0 3), .int .u64 (wd Y 0), .int .u64 (wd Y 1), .int .u64 (wd Y 2), .int .u64 (wd Y 3)] 28)) = w7 := ⟨_, rfl⟩
        have hX : w7.heap[w6.heap.size]? = some (.cells #[.int .u64 (wd X0 0), .int .u64 (wd X0 1), .int .u64 (wd X0 2), .int .u64 (wd X0 3)] 26) := by rw [← hq_w7]; exact hp_old _ (hp_new _ (by simp))
        have hP : w7.heap[w6.heap.size + 1]? = some (.cells #[.int .u64 (wd X0 0), .int .u64 (wd X0 1), .int .u64 (wd X0 2), .int .u64 (wd X0 3), .int .u64 (wd Y 0), .int .u64 (wd Y 1), .int .u64 (wd Y 2), .int .u64 (wd Y 3)] 28) := by rw [← hq_w7]; exact hp_new _ (by simp)
        have hs_w7 : w7.heap.size = w6.heap.size + 2 := by rw [← hq_w7]; simp
        have hw_w7 : Below w6.heap.size w6 w7 := by rw [← hq_w7]; exact ((Below.refl w6.heap.size w6).alloc (Nat.le_refl _) _).alloc (by simp) _
        rw [hq_w7]
        clear hq_w7
        replace hw2 := below_tr' hw2 hw_w7
        replace hR2 := keep hw_w7 hR2
        clear hw_w7
        clear hRP hwP cY
        refine (hon _).mono ?_
        rintro e w8 ⟨rfl, hb⟩
        replace hw2 := below_tr' hw2 hb
        replace hR2 := keep hb hR2
        replace hP := keep hb hP
        clear hb
        have cP := cell_of hP
        cases ON with
        | false =>
          go_wp2_with (first | (refine wpList_storeBlk 8 rfl rfl rfl rfl hR2 rfl rfl (by kernel_rfl) (by kernel_rfl) ?_; intro w12 s12; simp only [Act.put]))
          exact bodyPost_ret (v := .tuple #[pt 0 0, .bool false]) (results2_blk Try.results23 rfl rfl s12.at_ Try.underlying28 rfl (by kernel_rfl)) rfl ⟨rfl, s12.below (hw2) (by omega)⟩
        | true =>
          go_wp2_with fail
          clear cP
          refine (hpb _).mono ?_
          rintro e w9 ⟨rfl, hb⟩
          replace hw2 := below_tr' hw2 hb
          replace hR2 := keep hb hR2
          replace hP := keep hb hP
          clear hb
          have cP := cell_of hP
          cases SM with
          | false =>
            go_wp2_with (first | (refine wpList_storeBlk 8 rfl rfl rfl rfl hR2 rfl rfl (by kernel_rfl) (by kernel_rfl) ?_; intro w12 s12; simp only [Act.put]))
            exact bodyPost_ret (v := .tuple #[pt 0 0, .bool false]) (results2_blk Try.results23 rfl rfl s12.at_ Try.underlying28 rfl (by kernel_rfl)) rfl ⟨rfl, s12.below (hw2) (by omega)⟩
          | true =>
            go_wp2_with (first | (refine wpList_storeBlk 8 rfl rfl rfl rfl hR2 rfl rfl (by kernel_rfl) (by kernel_rfl) ?_; intro w12 s12; simp only [Act.put]))
            exact bodyPost_ret (v := .tuple #[pt X0 Y, .bool true]) (results2_blk Try.results23 rfl rfl s12.at_ Try.underlying28 rfl (by kernel_rfl)) rfl ⟨rfl, s12.below (hw2) (by omega)⟩
end Go.Proofs.Ytdhaedjmlddjcaa
