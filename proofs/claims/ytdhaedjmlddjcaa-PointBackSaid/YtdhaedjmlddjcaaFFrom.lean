/- field.From: the number of 32 bytes, if it is the least one. No conditions beyond bytes. -/
import Derived.Test.YtdhaedjmlddjcaaHex
import Derived.Test.YtdhaedjmlddjcaaEq
import Derived.Test.YtdhaedjmlddjcaaNumOf
namespace Go.Proofs.Ytdhaedjmlddjcaa
open Go.RowKit Go.Mono Go.Num
theorem wd_zero (j : Nat) : wd 0 j = 0 := by simp [wd]
theorem st4_zero (w : World) (b : Nat) : (((w.setCell ⟨b, 0, none⟩ (.int .u64 0)).setCell ⟨b, 1, none⟩ (.int .u64 0)).setCell ⟨b, 2, none⟩ (.int .u64 0)).setCell ⟨b, 3, none⟩ (.int .u64 0) = st4 w b 0 := by
  unfold st4
  simp only [wd_zero]
  rfl
set_option maxHeartbeats 400000 in
theorem ffrom_any (f : Nat → Nat) (w : World) (hf : ∀ j, f j < 256) :
    Calls Try.prog 47 #[.string (bstr f 32)] w fun e w' => e = .returned (.tuple #[num (if eqN (fnorm (numOf f 32)) (numOf f 32) then numOf f 32 else 0), .bool (eqN (fnorm (numOf f 32)) (numOf f 32))]) ∧ Below w.heap.size w w' := by
  have hsz := bstr_size f 32
  have hNl : numOf f 32 < W ^ 4 := numOf_lt f hf 32
  obtain ⟨N, hN⟩ : ∃ N, numOf f 32 = N := ⟨_, rfl⟩
  have HN := Lib.hid hN
  rw [hN] at hNl ⊢
  clear hN
  have heq := fun w => eq_num (fnorm N) N w (lt_W (fnorm_lt _)) hNl
  have hnm := fun w => norm_f N w hNl
  clear hNl
  generalize fnorm N = M at *
  generalize eqN M N = E at *
  have Heq := Lib.hid heq
  clear heq
  go_enter Try.func47, Try.ntmps47
  go_wp2_with fail
  obtain ⟨w0, hq_w0⟩ : ∃ w0, ((w.alloc (.cells #[.int .u64 0, .int .u64 0, .int .u64 0, .int .u64 0] 26)).alloc (.cells #[.int .u64 0, .int .u64 0, .int .u64 0, .int .u64 0] 26)) = w0 := ⟨_, rfl⟩
  have hR : w0.heap[w.heap.size]? = some (.cells #[.int .u64 0, .int .u64 0, .int .u64 0, .int .u64 0] 26) := by rw [← hq_w0]; exact hp_old _ (hp_new _ (by simp))
  have hA : w0.heap[w.heap.size + 1]? = some (.cells #[.int .u64 0, .int .u64 0, .int .u64 0, .int .u64 0] 26) := by rw [← hq_w0]; exact hp_new _ (by simp)
  have hs_w0 : w0.heap.size = w.heap.size + 2 := by rw [← hq_w0]; simp
  have hw_w0 : Below w.heap.size w w0 := by rw [← hq_w0]; exact ((Below.refl w.heap.size w).alloc (Nat.le_refl _) _).alloc (by simp) _
  rw [hq_w0]
  clear hq_w0
  obtain ⟨c, s, z, w2, hz, hs32, hcv, hs, hb⟩ := run_bytes_new (P := Try.prog) w0 9 49 5 32 f hf Try.underlying9 Try.underlying49 Try.underlying5
  have hlA := Go.Mono.lt_of_some hA
  replace hw_w0 := below_tr' hw_w0 hb
  replace hR := keep hb hR
  replace hA := keep hb hA
  clear hb
  rw [hs_w0] at hs hlA
  rw [hcv, hs_w0]
  clear hcv
  simp only [Result.andThen_ok, Oper.upon]
  go_wp2_with fail
  go_loopw [14] (fun i wr => ∃ k : Nat, k ≤ 32 ∧ i = .int .i64 k ∧ wr.heap[w.heap.size]? = some (.cells #[.int .u64 0, .int .u64 0, .int .u64 0, .int .u64 0] 26) ∧ wr.heap[w.heap.size + 1]? = some (.cells (cells4 (numOf f k)) 26) ∧ wr.heap[w.heap.size + 2]? = some (.cells (brow f 32 (c - 32)) 5 z) ∧ Below w.heap.size w wr) (fun i _ => 32 - (intOf i).toNat)
  case atStart => exact ⟨0, by omega, rfl, hR, by rw [numOf]; exact hA, hs, hw_w0⟩
  case round =>
    clear hR hA hs hw_w0
    obtain ⟨k, hk, rfl, hR, hA, hs, hw⟩ := hrel
    by_cases hlt : k < 32
    · have cs := brow_at hs k hlt
      obtain ⟨q, hq⟩ : ∃ q, k / 8 = q := ⟨_, rfl⟩
      obtain ⟨r, hr⟩ : ∃ r, k % 8 = r := ⟨_, rfl⟩
      have hq4 : q < 4 := by omega
      have hr8 : r < 8 := by omega
      have hq1 : (k : Int) / 8 = (q : Int) := by omega
      obtain ⟨e, he⟩ : ∃ e, r * 8 = e := ⟨_, rfl⟩
      have he56 : e ≤ 56 := by omega
      have hr1 : (k : Int).tmod 8 = (r : Int) := by rw [Int.tmod_eq_emod_of_nonneg (by omega)]; omega
      have hr2 : (r : Int) * 8 = (e : Int) := by omega
      have hr3 : IntKind.i64.wrap (e : Int) = (e : Int) := IntWalk.i64_in _ (by omega)
      have hq2 : IntKind.i64.wrap (q : Int) = (q : Int) := IntWalk.i64_in _ (by omega)
      have hor := or_byte f hf k
      have hcb := cells4_byte f hf k hlt
      have hV := hf k
      rw [hq, hr, he] at hor
      rw [hq] at hcb
      have hSl : f k * 2 ^ e < 18446744073709551616 := by
        have h1 : f k * 2 ^ e < 256 * 2 ^ e := Nat.mul_lt_mul_of_pos_right hV (Nat.pow_pos (by decide))
        have h2 : 256 * 2 ^ e ≤ 2 ^ 64 := by
          rw [show (256 : Nat) = 2 ^ 8 from rfl, ← Nat.pow_add]
          exact Nat.pow_le_pow_right (by decide) (by omega)
        exact Nat.lt_of_lt_of_le h1 h2
      have hsh : ((f k : Nat) : Int) * 2 ^ e = ((f k * 2 ^ e : Nat) : Int) := by rw [Int.natCast_mul, Int.natCast_pow]; rfl
      generalize f k * 2 ^ e = S at *
      have hS : IntKind.u64.wrap (S : Int) = (S : Int) := by rw [IntKind.wrap_u64]; omega
      generalize wd (numOf f (k + 1)) q = D at *
      have hf6 : IntKind.u64.wrap ((f k : Nat) : Int) = ((f k : Nat) : Int) := by rw [IntKind.wrap_u64]; omega
      have hq3 : (q : Int) < 4 := by omega
      go_wp2_with fail
      refine wp_region_mono 11 11 [] (fun _ => default) (by kernel_rfl) (by kernel_rfl) (fun _ _ _ _ _ h => h) ?_
      simp only [List.take_succ_cons, List.take_zero, List.drop_succ_cons, List.drop_zero]
      repeat (first
        | (apply head_pure rfl rfl rfl
           case h => (intro w1; go_simp; rfl)
           simp only [Act.put, List.setIfInBounds_toArray, List.set_cons_zero, List.set_cons_succ])
        | (apply head_val rfl rfl rfl rfl
           case h => (intro w1 hC; have cA := cell4 (n := numOf f k) (keep hC (hp_drew hA)) q hq4; clear hC; go_simp; rfl)
           simp only [Act.put, List.setIfInBounds_toArray, List.set_cons_zero, List.set_cons_succ]))
      refine head_nil ?_
      intro w3 hC _
      replace hw := below_tr hw hC
      replace hR := keep hC (hp_drew hR)
      replace hA := keep hC (hp_drew hA)
      replace hs := keep hC (hp_drew hs)
      clear hC
      have hA3 := hp_set (o := q) (v := .int .u64 D) hA
      rw [hcb] at hA3
      have hR3 := hp_set_ne (o := q) (v := .int .u64 D) (b' := w.heap.size + 1) hR (by omega)
      have hs3 := hp_set_ne (o := q) (v := .int .u64 D) (b' := w.heap.size + 1) hs (by omega)
      have hw3 := hw.setCell (p := ⟨w.heap.size + 1, q, none⟩) (by simp) (.int .u64 D)
      have cA := cell4 (n := numOf f k) hA q hq4
      have fA := frozen_of hA q
      clear hR hA hs hw
      go_wp2_with fail
      go_roundw
      case rel => exact ⟨k + 1, by omega, by go_num, hR3, hA3, hs3, hw3⟩
      case measure => simp [intOf]; omega
    · have hk32 : k = 32 := by omega
      rw [hk32, HN.out] at hA
      have hltd : decide ((k : Int) < 32) = false := by simp; omega
      clear hs hk hlt hk32
      go_wp2_with fail
      refine wp_region_calm (by kernel_rfl) (by kernel_rfl) ?_
      repeat (first
        | (refine calm_not rfl ?_
           simp only [Act.put, List.setIfInBounds_toArray, List.set_cons_zero, List.set_cons_succ])
        | (apply calm_pure rfl
           case h => (intro w1; go_simp; rfl)
           simp only [Act.put, List.setIfInBounds_toArray, List.set_cons_zero, List.set_cons_succ])
        | (apply calm_val rfl
           case h => (intro w1 hC; have cA := cell4 (keep hC (hp_drew hA)); clear hC; go_simp; rfl)
           simp only [Act.put, List.setIfInBounds_toArray, List.set_cons_zero, List.set_cons_succ]))
      refine calm_call rfl (fun w1 hC => by first | (go_simp; done) | (go_simp; rfl)) (fun w1 hC => hnm w1) ?_
      simp only [Act.put, List.setIfInBounds_toArray, List.set_cons_zero, List.set_cons_succ]
      repeat (first
        | (refine calm_not rfl ?_
           simp only [Act.put, List.setIfInBounds_toArray, List.set_cons_zero, List.set_cons_succ])
        | (apply calm_pure rfl
           case h => (intro w1; go_simp; rfl)
           simp only [Act.put, List.setIfInBounds_toArray, List.set_cons_zero, List.set_cons_succ])
        | (apply calm_val rfl
           case h => (intro w1 hC; have cA := cell4 (keep hC (hp_drew hA)); have c1 := Heq.out w1; clear hC; go_simp; rfl)
           simp only [Act.put, List.setIfInBounds_toArray, List.set_cons_zero, List.set_cons_succ]))
      refine wpQuiet_nil ?_
      intro w3 hC
      replace hw := below_tr hw hC
      replace hR := keep hC (hp_drew hR)
      replace hA := keep hC (hp_drew hA)
      clear hC
      have cR0 := cell_of hR 0
      have cR1 := cell_of hR 1
      have cR2 := cell_of hR 2
      have cR3 := cell_of hR 3
      have cRf := frozen_of hR
      cases E with
      | true =>
        have cA := cell4 hA
        have hB := st4_below (n := N) hw (show w.heap.size ≤ w.heap.size by omega)
        have hc := cell4 (st4_at (n := N) hR)
        clear hw hR hA
        go_wp2_with fail
        simp only [st4_eq]
        exact bodyPost_ret (v := .tuple #[num N, .bool true]) (by simp [results, Try.results47, go_sem, hc]) rfl ⟨rfl, hB⟩
      | false =>
        have hB := st4_below (n := 0) hw (show w.heap.size ≤ w.heap.size by omega)
        have hc := cell4 (st4_at (n := 0) hR)
        clear hw hR hA
        go_wp2_with fail
        rw [st4_zero]
        exact bodyPost_ret (v := .tuple #[num 0, .bool false]) (by simp [results, Try.results47, go_sem, hc]) rfl ⟨rfl, hB⟩
end Go.Proofs.Ytdhaedjmlddjcaa
