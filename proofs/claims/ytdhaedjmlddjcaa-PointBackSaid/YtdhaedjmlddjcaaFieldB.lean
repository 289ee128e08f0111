/- field.Norm: what a call comes to, for every number of 256 bits. No conditions beyond 256 bits. -/
import Derived.Test.YtdhaedjmlddjcaaFieldA
namespace Go.Proofs.Ytdhaedjmlddjcaa
open Go.RowKit Go.Mono Go.Num

set_option maxHeartbeats 400000 in
theorem norm_any (a : Nat) (w : World) (ha : a < W ^ 4) :
    Calls Try.prog 33 #[num a] w fun e w' => e = .returned (num (a % p)) ∧ Below w.heap.size w w' := by
  have h1 := and_low a
  have h2 := top_int ha
  have h3 := top_wrap ha
  have hm := fun w' => more_any (low a) (top a * 19) w'
  rw [num_low, folded_mod ha] at hm
  have Hm := Lib.hid hm; clear hm
  go_enter Try.func33, Try.ntmps33
  go_wp2_with fail
  refine (Hm.out _).mono ?_
  rintro e w1 ⟨rfl, hb⟩
  have hx := keep (b := w.heap.size) hb (hp_old _ (hp_new _ rfl))
  have hy := keep (b := w.heap.size + 1) hb (hp_new _ (by simp))
  have hb0 := (((Below.refl w.heap.size w).alloc (Nat.le_refl _) _).alloc (by simp) _).trans (hb.mono (by simp; omega))
  clear hb
  have hc0 := cell_of hx 0
  have hc1 := cell_of hx 1
  have hc2 := cell_of hx 2
  have hc3 := cell_of hx 3
  have hf := frozen_of hx
  go_wp2
  rw [st4_eq]
  have hx2 := st4_at (n := folded a) hx
  have hy2 := st4_other (n := folded a) hy (show w.heap.size + 1 ≠ w.heap.size by omega)
  have hb2 := st4_below (n := folded a) hb0 (Nat.le_refl _)
  clear hx hy hc0 hc1 hc2 hc3 hf hb0
  generalize st4 w1 w.heap.size (folded a) = w2 at *
  clear h1 h2 h3 Hm
  have hp := p_lt
  have hfo := folded_lt ha
  refine wp_region_mono 6 7 [5] (fun _ => .cells #[.int .u64 0, .int .u64 0, .int .u64 0, .int .u64 0] 26) (by kernel_rfl) (by kernel_rfl) (fun _ _ _ _ _ h => h) ?_
  simp only [List.take_succ_cons, List.take_zero, List.drop_succ_cons, List.drop_zero]
  repeat (first
    | (apply head_pure rfl rfl rfl
       case h => (intro w1; go_simp; rfl)
       simp only [Act.put, List.setIfInBounds_toArray, List.set_cons_zero, List.set_cons_succ])
    | (apply head_val rfl rfl rfl rfl
       case h => (intro w1 hC; have cx := cell4 (keep hC (hp_drew hx2)); clear hC; go_simp; rfl)
       simp only [Act.put, List.setIfInBounds_toArray, List.set_cons_zero, List.set_cons_succ]))
  refine head_call rfl rfl rfl rfl (fun w1 hC => by first | (go_simp; done) | (go_simp; rfl)) (fun w1 hC => prime_any w1) ?_
  simp only [Act.put, List.setIfInBounds_toArray, List.set_cons_zero, List.set_cons_succ]
  refine head_call rfl rfl rfl rfl (fun w1 hC => by first | (go_simp; done) | (go_simp; rfl)) (fun w1 hC => less_any (folded a) p w1) ?_
  simp only [Act.put, List.setIfInBounds_toArray, List.set_cons_zero, List.set_cons_succ]
  repeat
    (apply head_pure rfl rfl rfl
     case h => (intro w1; go_simp; rfl)
     simp only [Act.put, List.setIfInBounds_toArray, List.set_cons_zero, List.set_cons_succ])
  refine head_alloc rfl rfl rfl rfl (fun w1 => by first | (go_simp; done) | (go_simp; rfl)) (fun b4 hb4 => ?_)
  simp only [Act.put, List.setIfInBounds_toArray, List.set_cons_zero, List.set_cons_succ]
  refine head_nil ?_
  intro w3 hC hown
  obtain ⟨hl_b4, hn_b4, hd_b4, -⟩ := hown
  replace hn_b4 : w3.heap[b4]? = some (.cells _ _) := hn_b4
  replace hl_b4 : _ ≤ b4 := hl_b4
  clear hd_b4
  have hz0 := cell_of hn_b4 0
  have hz1 := cell_of hn_b4 1
  have hz2 := cell_of hn_b4 2
  have hz3 := cell_of hn_b4 3
  have hzf := frozen_of hn_b4
  have hy3 := keep hC (hp_drew hy2)
  have hx3 := keep hC (hp_drew hx2)
  have hb3 : Below w.heap.size w w3 := hb2.drew.trans (hC.mono (by have := hb2.size; simp; omega))
  have hlb : w.heap.size + 1 < b4 := by have := Go.Mono.lt_of_some (hp_drew hy2); omega
  clear hx2 hy2 hb2 hl_b4 hC
  by_cases hlt : folded a < p
  · have hbor : decide (0 < bor (folded a) p 4) = true := by rw [bor4 (Nat.lt_trans hfo twop_lt) hp]; simpa using hlt
    have hfin : folded a = a % p := by rw [← folded_p, Nat.mod_eq_of_lt hlt]
    rw [hbor]
    have Hfin := Lib.hid hfin
    have hB := st4_below (n := folded a) (st4_below (n := sub256 (folded a) p) hb3 (show w.heap.size ≤ b4 by omega)) (show w.heap.size ≤ w.heap.size + 1 by omega)
    have hc := cell4 (st4_at (n := folded a) (st4_other (b := b4) (n := sub256 (folded a) p) hy3 (by omega)))
    have hu0 := cell_of hy3 0
    have hu1 := cell_of hy3 1
    have hu2 := cell_of hy3 2
    have hu3 := cell_of hy3 3
    have huf := frozen_of hy3
    have hv := cell4 hx3
    clear hbor hfin hlt hp hfo ha
    go_wp2
    simp only [st4_eq]
    exact bodyPost_ret (v := num (folded a)) (by simp [results, Try.results33, go_sem, hc]) rfl ⟨by rw [Hfin.out], hB⟩
  · have hbor : decide (0 < bor (folded a) p 4) = false := by rw [bor4 (Nat.lt_trans hfo twop_lt) hp]; simpa using hlt
    have hfin : sub256 (folded a) p = a % p := by rw [sub256_ge (Nat.lt_trans hfo twop_lt) (by omega), ← folded_p, norm_ge (by omega) hfo]
    rw [hbor]
    have Hfin := Lib.hid hfin
    have hB := st4_below (n := sub256 (folded a) p) (st4_below (n := sub256 (folded a) p) hb3 (show w.heap.size ≤ b4 by omega)) (show w.heap.size ≤ w.heap.size + 1 by omega)
    have hc := cell4 (st4_at (n := sub256 (folded a) p) (st4_other (b := b4) (n := sub256 (folded a) p) hy3 (by omega)))
    have hu0 := cell_of hy3 0
    have hu1 := cell_of hy3 1
    have hu2 := cell_of hy3 2
    have hu3 := cell_of hy3 3
    have huf := frozen_of hy3
    clear hbor hfin hlt hp hfo ha
    go_wp2
    simp only [st4_eq]
    exact bodyPost_ret (v := num (sub256 (folded a) p)) (by simp [results, Try.results33, go_sem, hc]) rfl ⟨by rw [Hfin.out], hB⟩
end Go.Proofs.Ytdhaedjmlddjcaa
