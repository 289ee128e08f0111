/- codec.values and its function: for every loop body. No conditions beyond the size. -/
import Derived.Test.YtggbjpebdmlahaaPathM
import Derived.Test.YtggbjpebdmlahaaHashC
namespace Go.Num
open Go Go.RowKit
/-- The value of a letter, -1 of others. -/
def val32 (c : Nat) : Int := Lib.indexByte letters32.data.toList (UInt8.ofNat c)
theorem val32_cases : ∀ c : Fin 256, val32 c.1 = -1 ∨ (0 ≤ val32 c.1 ∧ val32 c.1 < 32 ∧ let32 (val32 c.1).toNat = c.1) := by decide +kernel
theorem val32_let : ∀ x : Fin 32, val32 (let32 x.1) = x.1 := by decide +kernel
end Go.Num
namespace Go.Proofs.Ytggbjpebdmlahaa
open Go.RowKit Go.Mono Go.Num Go.Shelf
attribute [local go_sem] Oper.semAt_some
set_option maxRecDepth 8000 in
set_option maxHeartbeats 400000 in
theorem values_any (s t : ByteArray) (w : World) :
    Calls Try.prog 61 #[.string s, .string t] w fun e w' => e = .returned (.func (.func 76) #[] #[.pointer (some ⟨w.heap.size, 0, none⟩), .pointer (some ⟨w.heap.size + 1, 0, none⟩)]) ∧
      w' = (w.alloc (.cells #[.string s] 9)).alloc (.cells #[.string t] 9) := by
  go_enter Try.func61, Try.ntmps61
  go_wp2_with fail
  go_ret
  exact ⟨rfl, rfl⟩
set_option maxRecDepth 100000 in
set_option maxHeartbeats 1000000 in
theorem values1_any (bs bt l d n : Nat) (f : Nat → Nat) (W1 : World) (J : Nat → World → Prop) (Jx : World → Prop) (hf : ∀ j, f j < 256) (hn : n < 100000)
    (hbs : W1.heap[bs]? = some (.cells #[.string (bstr f n)] 9)) (hbt : W1.heap[bt]? = some (.cells #[.string letters32] 9))
    (hJ0 : ∀ W2, Below W1.heap.size W1 W2 → J 0 W2)
    (hY : ∀ k W, k < n → J k W → W1.heap.size < W.heap.size → YieldAt Fence.wide d Try.prog l #[.int .i64 (val32 (f k))] W (fun e W' =>
      (e = .returned (.bool true) ∧ J (k + 1) W' ∧ W.heap.size ≤ W'.heap.size ∧ W'.heap[W1.heap.size]? = W.heap[W1.heap.size]? ∧ W'.heap[bt]? = W.heap[bt]?) ∨ (e = .returned (.bool false) ∧ Jx W'))) :
    CallsIn Fence.wide (d + 1) Try.prog 76 #[.func (.yield l) #[] #[], .pointer (some ⟨bs, 0, none⟩), .pointer (some ⟨bt, 0, none⟩)] W1 (fun e W2 => (∃ u, e = .returned u) ∧ (J n W2 ∨ Jx W2)) := by
  have hsz := bstr_size f n
  have cs := cell_of hbs 0
  refine callsIn_of_wp Try.func76 rfl trivial ?_ rfl
  simp only [Try.ntmps76, List.size_toArray, List.length_cons, List.length_nil, Nat.reduceAdd, Nat.reduceSub, Array.replicate_succ, Array.replicate_zero, List.push_toArray, List.append_toArray, List.nil_append, List.cons_append]
  obtain ⟨c, s, z, w2, hz, hs32, hcv, hs0, hb0⟩ := run_bytes_new (P := Try.prog) W1 9 22 5 n f hf Try.underlying9 Try.underlying22 Try.underlying5
  gi_wp2
  have hbt2 := keep hb0 hbt
  have hl0 := Go.Mono.lt_of_some hs0
  gi_loopw [9] (fun i wr => ∃ k : Nat, k ≤ n ∧ i = .int .i64 k ∧ J k wr ∧ W1.heap.size < wr.heap.size ∧ wr.heap[W1.heap.size]? = some (.cells (brow f n (c - n)) 5 z) ∧ wr.heap[bt]? = some (.cells #[.string letters32] 9)) (fun i _ => n - (intOf i).toNat)
  case atStart => exact ⟨0, by omega, rfl, hJ0 _ hb0, hl0, hs0, hbt2⟩
  case round =>
    clear hs0 hbt2 hl0
    obtain ⟨k, hk, rfl, hJ, hl0, hs0, hbt2⟩ := hrel
    by_cases hlt : k < n
    · have hlt' : (k : Int) < (n : Int) := by omega
      have c1 := brow_at hs0 k hlt
      have c2 := cell_of hbt2 0
      have hF39 : Fence.wide.fn 39 := trivial
      obtain ⟨fn, tmps, assign, body, hy, hR⟩ := hY k wr hlt hJ hl0
      unfold val32 at hy
      gi_wp2_with (gi_at_call 39; refine (callsIn_wide.2 (indexByte_any _ _ _)).mono ?_; rintro e w' ⟨rfl, rfl⟩)
      refine hR.mono ?_
      rintro e W3 (⟨rfl, hJ3, hs3, hr3, hb3⟩ | ⟨rfl, hJx3⟩)
      · gi_wp2
        go_roundw
        case rel => exact ⟨k + 1, by omega, by go_num, hJ3, by omega, hr3.trans hs0, hb3.trans hbt2⟩
        case measure => simp [intOf]; omega
      · gi_wp2
        refine bodyPost_ret (results_none rfl _ _ _) rfl ?_
        exact ⟨⟨_, rfl⟩, .inr hJx3⟩
    · obtain rfl : k = n := by omega
      have hlt' : ¬ (k : Int) < (k : Int) := by omega
      gi_wp2
      go_end0
      exact ⟨⟨_, rfl⟩, .inl hJ⟩
end Go.Proofs.Ytggbjpebdmlahaa
