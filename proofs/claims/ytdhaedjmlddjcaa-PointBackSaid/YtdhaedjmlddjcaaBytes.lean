/- point.Base, and the point that adds nothing; the bytes of a number. No conditions. -/
import Derived.Test.YtdhaedjmlddjcaaPointC
import Derived.Test.YtdhaedjmlddjcaaPointD
import Derived.Test.YtdhaedjmlddjcaaByteNum
import Derived.WalkSpells
import Derived.ShutString
namespace Go.Proofs.Ytdhaedjmlddjcaa
open Go.RowKit Go.Mono Go.Num

def baseX : Nat := 15112221349535400772501151409588531511454012693041857206046113283949847762202
def baseY : Nat := 46316835694926478169428394003475163141307993866256225615783033603165251855960
theorem base_lt : baseX < p ∧ baseY < p := by decide
theorem base_words : wd baseX 0 = 14507833142362363162 ∧ wd baseX 1 = 7578651490590762930 ∧ wd baseX 2 = 13881468655802702940 ∧ wd baseX 3 = 2407515759118799870 ∧ wd baseY 0 = 7378697629483820632 ∧ wd baseY 1 = 7378697629483820646 ∧ wd baseY 2 = 7378697629483820646 ∧ wd baseY 3 = 7378697629483820646 := by decide +kernel
theorem pt_base : pt baseX baseY = .agg #[.int .u64 14507833142362363162, .int .u64 7578651490590762930, .int .u64 13881468655802702940, .int .u64 2407515759118799870, .int .u64 7378697629483820632, .int .u64 7378697629483820646, .int .u64 7378697629483820646, .int .u64 7378697629483820646] := by
  obtain ⟨h0, h1, h2, h3, h4, h5, h6, h7⟩ := base_words
  unfold pt
  rw [h0, h1, h2, h3, h4, h5, h6, h7]; rfl

set_option maxHeartbeats 400000 in
theorem base_any (w : World) :
    Calls Try.prog 11 #[] w fun e w' => e = .returned (pt baseX baseY) ∧ Below w.heap.size w w' := by
  rw [pt_base]
  go_enter Try.func11, Try.ntmps11
  go_wp2
  exact bodyPost_ret (v := .agg #[.int .u64 14507833142362363162, .int .u64 7578651490590762930, .int .u64 13881468655802702940, .int .u64 2407515759118799870, .int .u64 7378697629483820632, .int .u64 7378697629483820646, .int .u64 7378697629483820646, .int .u64 7378697629483820646]) (by simp [results, Try.results11, go_sem]) rfl ⟨rfl, (Below.refl _ _).alloc (Nat.le_refl _) _⟩

set_option maxHeartbeats 400000 in
theorem zero_any (w : World) :
    Calls Try.prog 22 #[] w fun e w' => e = .returned (pt 0 1) ∧ Below w.heap.size w w' := by
  rw [pt_zero_one]
  go_enter Try.func22, Try.ntmps22
  go_wp2
  exact bodyPost_ret (v := .agg #[.int .u64 0, .int .u64 0, .int .u64 0, .int .u64 0, .int .u64 1, .int .u64 0, .int .u64 0, .int .u64 0]) (by simp [results, Try.results22, go_sem]) rfl ⟨rfl, (Below.refl _ _).alloc (Nat.le_refl _) _⟩

theorem run_make32 (w : World) : (Instr.makeSlice 49 (.int .i64 32) (.int .i64 32)).run Try.prog w = .ok (.slice (some ⟨w.heap.size, 0, none⟩) 32 32) (w.alloc (.cells (bcells (fun _ => 0) 32) 5)) := by kernel_rfl

set_option maxHeartbeats 400000 in
theorem fbytes_any (a : Nat) (w : World) (ha : a < W ^ 4) :
    Calls Try.prog 32 #[num a] w fun e w' => e = .returned (.string (bstr (byteAt (fnorm a)) 32)) ∧ Below w.heap.size w w' := by
  have Ha := Lib.hid ha
  clear ha
  go_enter Try.func32, Try.ntmps32
  go_wp2_with fail
  obtain ⟨w0, hq_w0⟩ : ∃ w0, (w.alloc (.cells #[.int .u64 (wd a 0), .int .u64 (wd a 1), .int .u64 (wd a 2), .int .u64 (wd a 3)] 26)) = w0 := ⟨_, rfl⟩
  have hx : w0.heap[w.heap.size]? = some (.cells #[.int .u64 (wd a 0), .int .u64 (wd a 1), .int .u64 (wd a 2), .int .u64 (wd a 3)] 26) := by rw [← hq_w0]; exact hp_new _ (by simp)
  have hs_w0 : w0.heap.size = w.heap.size + 1 := by rw [← hq_w0]; simp
  have hw_w0 : Below w.heap.size w w0 := by rw [← hq_w0]; exact (Below.refl w.heap.size w).alloc (Nat.le_refl _) _
  rw [hq_w0]
  clear hq_w0
  clear hs_w0
  refine (norm_f a _ Ha.out).mono ?_
  rintro e w1 ⟨rfl, hb⟩
  replace hw_w0 := below_tr' hw_w0 hb
  replace hx := keep hb hx
  clear hb
  rename_i hK_; refine hK_ _ _ ?_; clear hK_
  refine wpList_storeBlk 4 rfl rfl rfl rfl hx rfl rfl (by kernel_rfl) (by kernel_rfl) ?_
  intro w2 s2
  simp only [Act.put]
  replace hw_w0 := s2.below hw_w0 (by omega)
  replace hx := s2.at_
  clear s2
  have hmk := run_make32
  have hlx := Go.Mono.lt_of_some hx
  have hN : ∃ N, fnorm a = N := ⟨_, rfl⟩
  obtain ⟨N, hN⟩ := hN
  have HN := Lib.hid hN
  rw [hN] at hx ⊢
  clear hN
  go_wp2_with fail
  clear hmk
  obtain ⟨w3, hq_w3⟩ : ∃ w3, (w2.alloc (.cells (bcells (fun _ => 0) 32) 5)) = w3 := ⟨_, rfl⟩
  have hs : w3.heap[w2.heap.size]? = some (.cells (bcells (fun _ => 0) 32) 5) := by rw [← hq_w3]; exact hp_new _ (by simp)
  have hs_w3 : w3.heap.size = w2.heap.size + 1 := by rw [← hq_w3]; simp
  have hw_w3 : Below w2.heap.size w2 w3 := by rw [← hq_w3]; exact (Below.refl w2.heap.size w2).alloc (Nat.le_refl _) _
  rw [hq_w3]
  clear hq_w3
  clear hs_w3
  replace hw_w0 := below_tr' hw_w0 hw_w3
  replace hx := keep hw_w3 hx
  clear hw_w3
  generalize w2.heap.size = bS at *
  go_loopw [10] (fun i wr => ∃ k : Nat, k ≤ 32 ∧ i = .int .i64 k ∧ wr.heap[w.heap.size]? = some (.cells #[.int .u64 (wd N 0), .int .u64 (wd N 1), .int .u64 (wd N 2), .int .u64 (wd N 3)] 26) ∧ wr.heap[bS]? = some (.cells (bcells (fun j => if j < k then byteAt N j else 0) 32) 5) ∧ Below w.heap.size w wr) (fun i _ => 32 - (intOf i).toNat)
  case atStart => exact ⟨0, by omega, rfl, hx, by rw [bcells_congr (g := fun _ => 0) (fun j _ => by simp)]; exact hs, hw_w0⟩
  case round =>
    clear hx hs hw_w0
    obtain ⟨k, hk, rfl, hx, hs, hw⟩ := hrel
    by_cases hlt : k < 32
    · have cx := cell4 (n := N) hx (k / 8) (by omega)
      have cs := bcells_at hs k hlt
      have cf := frozen_of hs k
      have hcv := conv_byte N k hlt
      have hs2 := hp_set (o := k) (v := .int .u8 (byteAt N k)) hs
      rw [bcells_set, bcells_congr (g := fun j => if j < k + 1 then byteAt N j else 0) (fun j _ => by
        by_cases h1 : j = k
        · subst h1; simp
        · by_cases h2 : j < k
          · rw [if_neg h1, if_pos h2, if_pos (by omega)]
          · rw [if_neg h1, if_neg h2, if_neg (by omega)])] at hs2
      have hx2 := hp_set_ne (o := k) (v := .int .u8 (byteAt N k)) (b' := bS) hx (by omega)
      have hw2 := hw.setCell (p := ⟨bS, k, none⟩) (by simp; omega) (.int .u8 (byteAt N k))
      clear hx hs hw
      go_wp2
      go_roundw
      case rel => exact ⟨k + 1, by omega, by go_num, hx2, hs2, hw2⟩
      case measure => simp [intOf]; omega
    · obtain rfl : k = 32 := by omega
      rw [bcells_congr (g := byteAt N) (fun j hj => by simp [hj])] at hs
      have hst := run_bstr (P := Try.prog) (c := 32) hs Try.underlying49 Try.underlying5 Try.underlying9
      go_wp2
      go_ret
      exact ⟨by rw [HN.out]; rfl, hw⟩
end Go.Proofs.Ytdhaedjmlddjcaa
