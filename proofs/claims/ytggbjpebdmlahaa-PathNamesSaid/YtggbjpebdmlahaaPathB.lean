/- codec.Fold, of 32 bytes or any, to 20: what each call comes to. No conditions beyond the sizes. -/
import Derived.Test.YtggbjpebdmlahaaPathA
namespace Go.Num
open Go Go.RowKit
/-- The bytes one over the other, to 20: byte j behind n of them. -/
def foldN (f : Nat → Nat) : Nat → Nat → Nat
  | 0 => fun _ => 0
  | n + 1 => fun j => if j = n % 20 then foldN f n j ^^^ f n else foldN f n j
theorem foldN_lt (f : Nat → Nat) (hf : ∀ j, f j < 256) (n j : Nat) : foldN f n j < 256 := by
  induction n with
  | zero => exact Nat.zero_lt_succ _
  | succ n ih =>
    unfold foldN
    split
    · exact Nat.xor_lt_two_pow (n := 8) ih (hf n)
    · exact ih
end Go.Num
namespace Go.Proofs.Ytggbjpebdmlahaa
open Go.RowKit Go.Mono Go.Num
theorem run_make20 (w : World) : (Instr.makeSlice 22 (.int .i64 20) (.int .i64 20)).run Try.prog w = .ok (.slice (some ⟨w.heap.size, 0, none⟩) 20 20) (w.alloc (.cells (bcells (fun _ => 0) 20) 5)) := by kernel_rfl
set_option maxRecDepth 8000 in
set_option maxHeartbeats 400000 in
theorem fold_any (f : Nat → Nat) (n : Nat) (w : World) (hn : n < 1000) (hf : ∀ j, f j < 256) :
    Calls Try.prog 29 #[.string (bstr f n), .int .i64 20] w fun e w' => e = .returned (.string (bstr (foldN f n) 20)) ∧ Below w.heap.size w w' := by
  have hsz := bstr_size f n
  obtain ⟨q, hq⟩ : ∃ q : Int, q = 20 := ⟨_, rfl⟩
  rw [← hq]
  have hmk : ∀ w, (Instr.makeSlice 22 (.int .i64 q) (.int .i64 q)).run Try.prog w = .ok (.slice (some ⟨w.heap.size, 0, none⟩) 20 20) (w.alloc (.cells (bcells (fun _ => 0) 20) 5)) := by
    intro w; rw [hq]; exact run_make20 w
  have hq1 : ¬ q < 1 := by omega
  have hq2 : ¬ 64 < q := by omega
  have hq3 : ¬ q > 64 := by omega
  have Hq := Lib.hid hq
  clear hq
  go_enter Try.func29, Try.ntmps29
  go_wp2_with fail
  clear hmk
  have hq := Hq.out
  clear Hq
  subst hq
  obtain ⟨w0, hq_w0⟩ : ∃ w0, (w.alloc (.cells (bcells (fun _ => 0) 20) 5)) = w0 := ⟨_, rfl⟩
  have hA : w0.heap[w.heap.size]? = some (.cells (bcells (fun _ => 0) 20) 5) := by rw [← hq_w0]; exact hp_new _ (by simp)
  have hs_w0 : w0.heap.size = w.heap.size + 1 := by rw [← hq_w0]; simp
  have hw_w0 : Below w.heap.size w w0 := by rw [← hq_w0]; exact (Below.refl w.heap.size w).alloc (Nat.le_refl _) _
  rw [hq_w0]
  clear hq_w0
  obtain ⟨c, s, z, w2, hz, hs32, hcv, hs, hb⟩ := run_bytes_new (P := Try.prog) w0 9 22 5 n f hf Try.underlying9 Try.underlying22 Try.underlying5
  have hlA := Go.Mono.lt_of_some hA
  replace hw_w0 := below_tr' hw_w0 hb
  replace hA := keep hb hA
  clear hb
  rw [hs_w0] at hs hlA
  rw [hcv, hs_w0]
  clear hcv
  simp only [Result.andThen_ok, Oper.upon]
  go_wp2_with fail
  go_loopw [19] (fun i wr => ∃ k : Nat, k ≤ n ∧ i = .int .i64 k ∧ wr.heap[w.heap.size]? = some (.cells (bcells (foldN f k) 20) 5) ∧ wr.heap[w.heap.size + 1]? = some (.cells (brow f n (c - n)) 5 z) ∧ Below w.heap.size w wr) (fun i _ => n - (intOf i).toNat)
  case atStart => exact ⟨0, by omega, rfl, hA, hs, hw_w0⟩
  case round =>
    clear hA hs hw_w0
    obtain ⟨k, hk, rfl, hA, hs, hw⟩ := hrel
    by_cases hlt : k < n
    · have cs := brow_at hs k hlt
      have hlt' : (k : Int) < (n : Int) := by omega
      obtain ⟨r, hr⟩ : ∃ r, k % 20 = r := ⟨_, rfl⟩
      have hr1 : (k : Int).tmod 20 = (r : Int) := by rw [Int.tmod_eq_emod_of_nonneg (by omega)]; omega
      have hr20 : r < 20 := by omega
      have hr2 : (r : Int) < 20 := by omega
      have ca := bcells_at hA r hr20
      have cf := frozen_of hA r
      have hx := u8_xor_nat (foldN f k r) (f k) (foldN_lt f hf k r) (hf k)
      have hA2 := hp_set (o := r) (v := .int .u8 ((foldN f k r ^^^ f k : Nat) : Int)) hA
      rw [bcells_set, bcells_congr (g := foldN f (k + 1)) (fun j _ => by
        show _ = if j = k % 20 then _ else _
        rw [hr]
        by_cases h : j = r
        · simp only [h, if_true]
        · simp only [h, if_false])] at hA2
      have hs2 := hp_set_ne (b' := w.heap.size) (o := r) (v := .int .u8 ((foldN f k r ^^^ f k : Nat) : Int)) hs (by omega)
      have hw2 := hw.setCell (p := ⟨w.heap.size, r, none⟩) (by simp) (.int .u8 ((foldN f k r ^^^ f k : Nat) : Int))
      generalize foldN f k r ^^^ f k = X at *
      clear hA hs hw
      go_wp2_with fail
      go_roundw
      case rel => exact ⟨k + 1, by omega, by go_num, hA2, hs2, hw2⟩
      case measure => simp [intOf]; omega
    · obtain rfl : k = n := by omega
      have hlt' : ¬ (k : Int) < (k : Int) := by omega
      have hst := run_bstr (P := Try.prog) (c := 20) hA Try.underlying22 Try.underlying5 Try.underlying9
      go_wp2_with fail
      go_ret
      exact ⟨rfl, hw⟩
end Go.Proofs.Ytggbjpebdmlahaa
