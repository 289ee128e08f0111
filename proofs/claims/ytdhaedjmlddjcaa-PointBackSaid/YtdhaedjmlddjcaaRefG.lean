/- r1.Little, r6.Bytes, r6.BytesPoint, r6.number: bytes of numbers, numbers of bytes. No conditions beyond the sizes. -/
import Derived.Test.YtdhaedjmlddjcaaRefF
import Derived.Test.YtdhaedjmlddjcaaPFrom
import Derived.Test.YtdhaedjmlddjcaaAwake
namespace Go.Num
open Go Go.RowKit
theorem conv_byte1 (n k : Nat) : IntKind.u8.wrap ((n : Int) / 2 ^ (8 * k)) = (byteAt n k : Int) := by
  have h1 : ((n : Int) / 2 ^ (8 * k)) = ((n / 2 ^ (8 * k) : Nat) : Int) := by rw [Int.natCast_ediv, Int.natCast_pow]; rfl
  rw [h1, IntKind.wrap_u8]
  unfold byteAt
  rw [show (256 : Nat) = 2 ^ 8 from rfl, ← Nat.pow_mul]; rfl
theorem byte_of_word (n k j : Nat) (hj : j < 8) : byteAt (wd n k) j = byteAt n (8 * k + j) := by
  unfold byteAt wd
  have hW : W = 2 ^ 64 := rfl
  rw [hW, show (256 : Nat) = 2 ^ 8 from rfl, ← Nat.pow_mul, ← Nat.pow_mul, ← Nat.pow_mul]
  rw [show (2 : Nat) ^ 64 = 2 ^ (8 * j) * 2 ^ (64 - 8 * j) by rw [← Nat.pow_add]; congr 1; omega, Nat.mod_mul_right_div_self, Nat.mod_mod_of_dvd _ (Nat.pow_dvd_pow 2 (by omega)), Nat.div_div_eq_div_mul, ← Nat.pow_add]
  congr 3
  omega
theorem bstr_append (f g : Nat → Nat) (m n : Nat) : bstr f m ++ bstr g n = bstr (fun j => if j < m then f j else g (j - m)) (m + n) := by
  apply ByteArray.ext
  show (bstr f m ++ bstr g n).data = (btext (fun j => if j < m then f j else g (j - m)) (m + n)).toArray
  rw [ByteArray.data_append]
  show (btext f m).toArray ++ (btext g n).toArray = _
  unfold btext
  rw [List.range_add, List.map_append, List.append_toArray]
  congr 2
  · apply List.map_congr_left
    intro j hj
    show _ = UInt8.ofNat (if j < m then f j else g (j - m))
    rw [if_pos (by simpa using hj)]
  · rw [List.map_map]
    apply List.map_congr_left
    intro j _
    show _ = UInt8.ofNat (if m + j < m then f (m + j) else g (m + j - m))
    rw [if_neg (by omega), show m + j - m = j by omega]
theorem bstr_word (a k : Nat) : bstr (byteAt a) (8 * k) ++ bstr (byteAt (wd a k)) 8 = bstr (byteAt a) (8 * (k + 1)) := by
  rw [bstr_append, show 8 * k + 8 = 8 * (k + 1) by omega]
  apply bstr_congr
  intro j hj
  split
  · rfl
  · rw [byte_of_word _ _ _ (by omega)]; congr 1; omega
theorem bstr_nil (f : Nat → Nat) : bstr f 0 = ⟨#[]⟩ := rfl
end Go.Num
namespace Go.Proofs.Ytdhaedjmlddjcaa
open Go.RowKit Go.Mono Go.Num
theorem run_make8 (w : World) : (Instr.makeSlice 49 (.int .i64 8) (.int .i64 8)).run Try.prog w = .ok (.slice (some ⟨w.heap.size, 0, none⟩) 8 8) (w.alloc (.cells (bcells (fun _ => 0) 8) 5)) := by kernel_rfl
set_option maxHeartbeats 400000 in
theorem little_any (x : Nat) (w : World) :
    Calls Try.prog 73 #[.int .u64 x, .int .i64 8] w fun e w' => e = .returned (.string (bstr (byteAt x) 8)) ∧ Below w.heap.size w w' := by
  have hmk := run_make8
  go_enter Try.func73, Try.ntmps73
  go_wp2_with fail
  clear hmk
  obtain ⟨w3, hq_w3⟩ : ∃ w3, (w.alloc (.cells (bcells (fun _ => 0) 8) 5)) = w3 := ⟨_, rfl⟩
  have hs : w3.heap[w.heap.size]? = some (.cells (bcells (fun _ => 0) 8) 5) := by rw [← hq_w3]; exact hp_new _ (by simp)
  have hs_w3 : w3.heap.size = w.heap.size + 1 := by rw [← hq_w3]; simp
  have hw_w3 : Below w.heap.size w w3 := by rw [← hq_w3]; exact (Below.refl w.heap.size w).alloc (Nat.le_refl _) _
  rw [hq_w3]
  clear hq_w3
  go_loopw [6] (fun i wr => ∃ k : Nat, k ≤ 8 ∧ i = .int .i64 k ∧ wr.heap[w.heap.size]? = some (.cells (bcells (fun j => if j < k then byteAt x j else 0) 8) 5) ∧ Below w.heap.size w wr) (fun i _ => 8 - (intOf i).toNat)
  case atStart => exact ⟨0, by omega, rfl, by rw [bcells_congr (g := fun _ => 0) (fun j _ => by simp)]; exact hs, hw_w3⟩
  case round =>
    clear hs hw_w3 hs_w3
    obtain ⟨k, hk, rfl, hs, hw⟩ := hrel
    by_cases hlt : k < 8
    · have hlt' : (k : Int) < 8 := by omega
      have cs := bcells_at hs k hlt
      have cf := frozen_of hs k
      have hcv := conv_byte1 x k
      have hs2 := hp_set (o := k) (v := .int .u8 (byteAt x k)) hs
      rw [bcells_set, bcells_congr (g := fun j => if j < k + 1 then byteAt x j else 0) (fun j _ => by
        by_cases h1 : j = k
        · subst h1; simp
        · by_cases h2 : j < k
          · rw [if_neg h1, if_pos h2, if_pos (by omega)]
          · rw [if_neg h1, if_neg h2, if_neg (by omega)])] at hs2
      have hw2 := hw.setCell (p := ⟨w.heap.size, k, none⟩) (by simp) (.int .u8 (byteAt x k))
      clear hs hw
      go_wp2_with fail
      go_roundw
      case rel => exact ⟨k + 1, by omega, by go_num, hs2, hw2⟩
      case measure => simp [intOf]; omega
    · obtain rfl : k = 8 := by omega
      rw [bcells_congr (g := byteAt x) (fun j hj => by simp [hj])] at hs
      have hst := run_bstr (P := Try.prog) (c := 8) hs Try.underlying49 Try.underlying5 Try.underlying9
      go_wp2_with fail
      go_ret
      exact ⟨rfl, hw⟩
set_option maxHeartbeats 400000 in
theorem rlittle_any (x : Nat) (w : World) :
    Calls Try.prog 69 #[.int .u64 x, .int .i64 8] w fun e w' => e = .returned (.string (bstr (byteAt x) 8)) ∧ Below w.heap.size w w' := by
  go_enter Try.func69, Try.ntmps69
  go_wp2_with fail
  refine (little_any x _).mono ?_
  rintro e w1 ⟨rfl, hb⟩
  go_wp2_with fail
  go_ret
  exact ⟨rfl, hb⟩
set_option maxHeartbeats 400000 in
theorem nbytes_any (a : Nat) (w : World) :
    Calls Try.prog 63 #[num a] w fun e w' => e = .returned (.string (bstr (byteAt a) 32)) ∧ Below w.heap.size w w' := by
  go_enter Try.func63, Try.ntmps63
  go_wp2_with fail
  obtain ⟨w0, hq_w0⟩ : ∃ w0, (w.alloc (.cells #[.int .u64 (wd a 0), .int .u64 (wd a 1), .int .u64 (wd a 2), .int .u64 (wd a 3)] 26)) = w0 := ⟨_, rfl⟩
  have hA : w0.heap[w.heap.size]? = some (.cells #[.int .u64 (wd a 0), .int .u64 (wd a 1), .int .u64 (wd a 2), .int .u64 (wd a 3)] 26) := by rw [← hq_w0]; exact hp_new _ (by simp)
  have hs_w0 : w0.heap.size = w.heap.size + 1 := by rw [← hq_w0]; simp
  have hw_w0 : Below w.heap.size w w0 := by rw [← hq_w0]; exact (Below.refl w.heap.size w).alloc (Nat.le_refl _) _
  rw [hq_w0]
  clear hq_w0
  rw [← bstr_nil (byteAt a)]
  go_loopw [3, 4] (fun vs vi wr => ∃ k : Nat, k ≤ 4 ∧ vi = .int .i64 k ∧ vs = .string (bstr (byteAt a) (8 * k)) ∧ wr.heap[w.heap.size]? = some (.cells (cells4 a) 26) ∧ Below w.heap.size w wr) (fun _ vi _ => 4 - (intOf vi).toNat)
  case atStart => exact ⟨0, by omega, rfl, rfl, hA, hw_w0⟩
  case round =>
    clear hA hw_w0 hs_w0
    obtain ⟨k, hk, rfl, rfl, hA, hw⟩ := hrel
    by_cases hlt : k < 4
    · have hlt' : (k : Int) < 4 := by omega
      have cA := cell4 hA k hlt
      have hsz := bstr_size (byteAt a) (8 * k)
      have hsz2 := bstr_size (byteAt (wd a k)) 8
      have happ := bstr_word a k
      have hl := rlittle_any (wd a k)
      generalize bstr (byteAt (wd a k)) 8 = T at *
      generalize bstr (byteAt a) (8 * k) = S at *
      obtain ⟨S2, hS2⟩ : ∃ S2, bstr (byteAt a) (8 * (k + 1)) = S2 := ⟨_, rfl⟩
      have HS2 := Lib.hid hS2
      rw [hS2] at happ
      clear hS2
      go_wp2_with fail
      refine (hl _).mono ?_
      rintro e w1 ⟨rfl, hb⟩
      clear cA hl
      replace hw := below_tr' hw hb
      replace hA := keep hb hA
      clear hb
      go_wp2_with fail
      go_roundw
      case rel => exact ⟨k + 1, by omega, by go_num, by rw [HS2.out], hA, hw⟩
      case measure => simp [intOf]; omega
    · obtain rfl : k = 4 := by omega
      go_wp2_with fail
      go_ret
      exact ⟨rfl, hw⟩
set_option maxHeartbeats 400000 in
theorem rbytes_any (a : Nat) (w : World) (ha : a < W ^ 4) :
    Calls Try.prog 42 #[num a] w fun e w' => e = .returned (.string (bstr (byteAt (fnorm a)) 32)) ∧ Below w.heap.size w w' := by
  have Ha := Lib.hid ha
  clear ha
  go_enter Try.func42, Try.ntmps42
  go_wp2_with fail
  obtain ⟨w0, hq_w0⟩ : ∃ w0, (w.alloc (.cells #[.int .u64 (wd a 0), .int .u64 (wd a 1), .int .u64 (wd a 2), .int .u64 (wd a 3)] 26)) = w0 := ⟨_, rfl⟩
  have hA : w0.heap[w.heap.size]? = some (.cells #[.int .u64 (wd a 0), .int .u64 (wd a 1), .int .u64 (wd a 2), .int .u64 (wd a 3)] 26) := by rw [← hq_w0]; exact hp_new _ (by simp)
  have hs_w0 : w0.heap.size = w.heap.size + 1 := by rw [← hq_w0]; simp
  have hw_w0 : Below w.heap.size w w0 := by rw [← hq_w0]; exact (Below.refl w.heap.size w).alloc (Nat.le_refl _) _
  rw [hq_w0]
  clear hq_w0
  clear hs_w0 hA
  refine (rnorm_any a _ Ha.out).mono ?_
  rintro e w1 ⟨rfl, hb⟩
  replace hw_w0 := below_tr' hw_w0 hb
  clear hb
  go_wp2_with fail
  refine (nbytes_any (fnorm a) _).mono ?_
  rintro e w2 ⟨rfl, hb⟩
  replace hw_w0 := below_tr' hw_w0 hb
  clear hb
  go_wp2_with fail
  go_ret
  exact ⟨rfl, hw_w0⟩
set_option maxHeartbeats 400000 in
theorem rbytesp_any (x y : Nat) (w : World) (hy : y < W ^ 4) :
    Calls Try.prog 20 #[pt x y] w fun e w' => e = .returned (.string (bstr (pbyte x y) 32)) ∧ Below w.heap.size w w' := by
  have Hy := Lib.hid hy
  clear hy
  have ha := and1 (wd x 0) (wd_lt x 0)
  rw [show wd x 0 % 2 = x % 2 by unfold wd; rw [Nat.pow_zero, Nat.div_one]; exact Nat.mod_mod_of_dvd x (by decide)] at ha
  obtain ⟨B, hB⟩ : ∃ B, pbyte x y = B := ⟨_, rfl⟩
  have HB := Lib.hid hB
  rw [hB]
  clear hB
  go_enter Try.func20, Try.ntmps20
  go_wp2_with fail
  obtain ⟨w0, hq_w0⟩ : ∃ w0, (w.alloc (.cells #[.int .u64 (wd x 0), .int .u64 (wd x 1), .int .u64 (wd x 2), .int .u64 (wd x 3), .int .u64 (wd y 0), .int .u64 (wd y 1), .int .u64 (wd y 2), .int .u64 (wd y 3)] 28)) = w0 := ⟨_, rfl⟩
  have hx : w0.heap[w.heap.size]? = some (.cells #[.int .u64 (wd x 0), .int .u64 (wd x 1), .int .u64 (wd x 2), .int .u64 (wd x 3), .int .u64 (wd y 0), .int .u64 (wd y 1), .int .u64 (wd y 2), .int .u64 (wd y 3)] 28) := by rw [← hq_w0]; exact hp_new _ (by simp)
  have hs_w0 : w0.heap.size = w.heap.size + 1 := by rw [← hq_w0]; simp
  have hw_w0 : Below w.heap.size w w0 := by rw [← hq_w0]; exact (Below.refl w.heap.size w).alloc (Nat.le_refl _) _
  rw [hq_w0]
  clear hq_w0
  clear hs_w0
  have cx := cell_of hx
  go_wp2_with fail
  refine (rbytes_any y _ Hy.out).mono ?_
  rintro e w1 ⟨rfl, hb⟩
  clear cx
  replace hw_w0 := below_tr' hw_w0 hb
  replace hx := keep hb hx
  clear hb
  obtain ⟨c, s, z, w2, hz, hs32, hcv, hs, hb⟩ := run_bytes_new (P := Try.prog) w1 9 49 5 32 (byteAt (fnorm y)) (byteAt_lt _) Try.underlying9 Try.underlying49 Try.underlying5
  have hN : ∃ N, fnorm y = N := ⟨_, rfl⟩
  obtain ⟨N, hN⟩ := hN
  have HN := Lib.hid hN
  rw [hN] at hcv hs ⊢
  clear hN
  have hlx := Go.Mono.lt_of_some hx
  replace hw_w0 := below_tr' hw_w0 hb
  replace hx := keep hb hx
  clear hb
  generalize w1.heap.size = bS at *
  have hV := byteAt_lt N 31
  obtain ⟨R, hR⟩ : ∃ R, (if x % 2 = 1 then byteAt N 31 ||| 128 else byteAt N 31) = R := ⟨_, rfl⟩
  have hXl : x % 2 < 2 := by omega
  have HR := Lib.hid hR
  have hor : bits .or .u8 ((byteAt N 31 : Nat) : Int) ((x % 2 * 128 : Nat) : Int) = (R : Int) := by
    rw [u8_or_nat _ _ hV (by omega), ← hR]
    rcases (show x % 2 = 0 ∨ x % 2 = 1 by omega) with h | h
    · rw [h, if_neg (by decide)]; simp
    · rw [h, if_pos rfl]
  have hfin : pbyte x y = fun j => if j = 31 then R else byteAt N j := by
    funext j
    unfold pbyte
    rw [HN.out, ← hR]
    by_cases h1 : x % 2 = 1 <;> by_cases h2 : j = 31 <;> simp [h1, h2]
  have Hfin := Lib.hid hfin
  clear hR hfin
  have hc1 : IntKind.u8.wrap ((x % 2 : Nat) : Int) = ((x % 2 : Nat) : Int) := by rw [IntKind.wrap_u8]; omega
  have hc2 : IntKind.u8.wrap (((x % 2 : Nat) : Int) * 128) = ((x % 2 * 128 : Nat) : Int) := by rw [IntKind.wrap_u8]; omega
  generalize x % 2 * 128 = X1 at *
  generalize x % 2 = X0 at *
  have hc := brow_at hs 31 (by decide)
  obtain ⟨V0, hV0⟩ : ∃ V0, byteAt N 31 = V0 := ⟨_, rfl⟩
  rw [hV0] at hor hc
  clear hV hV0
  have hc31 : (brow (byteAt N) 32 (c - 32))[31]? = some (.int .u8 V0) := by rw [← hc, cell_of hs]
  clear hc
  go_wp2_with fail
  refine wp_region_mono 11 11 [] (fun _ => default) (by kernel_rfl) (by kernel_rfl) (fun _ _ _ _ _ h => h) ?_
  simp only [List.take_succ_cons, List.take_zero, List.drop_succ_cons, List.drop_zero]
  repeat (first
    | (apply head_pure rfl rfl rfl
       case h => (intro w1; go_simp; rfl)
       simp only [Act.put, List.setIfInBounds_toArray, List.set_cons_zero, List.set_cons_succ])
    | (apply head_val rfl rfl rfl rfl
       case h => (intro w1 hC; have cS := (cell_of (keep hC (hp_drew hs)) 31).trans hc31; have cX := cell_of (keep hC (hp_drew hx)); clear hC; go_simp; rfl)
       simp only [Act.put, List.setIfInBounds_toArray, List.set_cons_zero, List.set_cons_succ]))
  refine head_nil ?_
  intro w3 hC _
  replace hw_w0 := below_tr hw_w0 hC
  replace hx := keep hC (hp_drew hx)
  replace hs := keep hC (hp_drew hs)
  clear hC
  have cs := brow_at hs 31 (by decide)
  have fs := frozen_row hz hs 31 (by omega)
  have hs2 := hp_set (o := 31) (v := .int .u8 (R : Int)) hs
  rw [brow_set _ (by decide)] at hs2
  have hw2 := hw_w0.setCell (p := ⟨bS, 31, none⟩) (by simp; omega) (.int .u8 (R : Int))
  have hst := run_brow (P := Try.prog) (c := c) hs2 Try.underlying49 Try.underlying5 Try.underlying9
  rw [show (fun j => if j = 31 then R else byteAt N j) = B by rw [← Hfin.out]; exact HB.out] at hst
  clear hs hx hs2 hz hw_w0
  go_wp2_with fail
  go_ret
  exact ⟨rfl, hw2⟩
set_option maxHeartbeats 400000 in
theorem number_any (f : Nat → Nat) (w : World) (hf : ∀ j, f j < 256) :
    Calls Try.prog 49 #[.string (bstr f 32)] w fun e w' => e = .returned (num (numOf f 32)) ∧ Below w.heap.size w w' := by
  have hsz := bstr_size f 32
  go_enter Try.func49, Try.ntmps49
  go_wp2_with fail
  obtain ⟨w0, hq_w0⟩ : ∃ w0, ((w.alloc (.cells #[.int .u64 0, .int .u64 0, .int .u64 0, .int .u64 0] 26)).alloc (.cells #[.int .u64 0, .int .u64 0, .int .u64 0, .int .u64 0] 26)) = w0 := ⟨_, rfl⟩
  have hR : w0.heap[w.heap.size]? = some (.cells #[.int .u64 0, .int .u64 0, .int .u64 0, .int .u64 0] 26) := by rw [← hq_w0]; exact hp_old _ (hp_new _ (by simp))
  have hA : w0.heap[w.heap.size + 1]? = some (.cells #[.int .u64 0, .int .u64 0, .int .u64 0, .int .u64 0] 26) := by rw [← hq_w0]; exact hp_new _ (by simp)
  have hs_w0 : w0.heap.size = w.heap.size + 2 := by rw [← hq_w0]; simp
  have hw_w0 : Below w.heap.size w w0 := by rw [← hq_w0]; exact ((Below.refl w.heap.size w).alloc (Nat.le_refl _) _).alloc (by simp) _
  rw [hq_w0]
  clear hq_w0
  go_loopw [4] (fun i wr => ∃ k : Nat, k ≤ 32 ∧ i = .int .i64 k ∧ wr.heap[w.heap.size]? = some (.cells #[.int .u64 0, .int .u64 0, .int .u64 0, .int .u64 0] 26) ∧ wr.heap[w.heap.size + 1]? = some (.cells (cells4 (numOf f k)) 26) ∧ Below w.heap.size w wr) (fun i _ => 32 - (intOf i).toNat)
  case atStart => exact ⟨0, by omega, rfl, hR, by rw [numOf]; exact hA, hw_w0⟩
  case round =>
    clear hR hA hw_w0 hs_w0
    obtain ⟨k, hk, rfl, hR, hA, hw⟩ := hrel
    by_cases hlt : k < 32
    · have hlt' : (k : Int) < 32 := by omega
      obtain ⟨q, hq⟩ : ∃ q, k / 8 = q := ⟨_, rfl⟩
      obtain ⟨r, hr⟩ : ∃ r, k % 8 = r := ⟨_, rfl⟩
      have hq4 : q < 4 := by omega
      have hr8 : r < 8 := by omega
      have hq1 : (k : Int) / 8 = (q : Int) := by omega
      obtain ⟨e, he⟩ : ∃ e, r * 8 = e := ⟨_, rfl⟩
      have he56 : e ≤ 56 := by omega
      have hr1 : (k : Int).tmod 8 = (r : Int) := by rw [Int.tmod_eq_emod_of_nonneg (by omega)]; omega
      have hr2 : (r : Int) * 8 = (e : Int) := by omega
      have hr3 : IntKind.i64.wrap (e : Int) = (e : Int) := IntWalk.i64_in _ (by omega)
      have hq2 : IntKind.i64.wrap (q : Int) = (q : Int) := IntWalk.i64_in _ (by omega)
      have hor := or_byte f hf k
      have hcb := cells4_byte f hf k hlt
      have hat := bstr_at f 32 k (hf k) (by rw [hsz]; exact hlt)
      have hV := hf k
      rw [hq, hr, he] at hor
      rw [hq] at hcb
      have hSl : f k * 2 ^ e < 18446744073709551616 := by
        have h1 : f k * 2 ^ e < 256 * 2 ^ e := Nat.mul_lt_mul_of_pos_right hV (Nat.pow_pos (by decide))
        have h2 : 256 * 2 ^ e ≤ 2 ^ 64 := by
          rw [show (256 : Nat) = 2 ^ 8 from rfl, ← Nat.pow_add]
          exact Nat.pow_le_pow_right (by decide) (by omega)
        exact Nat.lt_of_lt_of_le h1 h2
      have hsh : ((f k : Nat) : Int) * 2 ^ e = ((f k * 2 ^ e : Nat) : Int) := by rw [Int.natCast_mul, Int.natCast_pow]; rfl
      generalize f k * 2 ^ e = S at *
      have hS : IntKind.u64.wrap (S : Int) = (S : Int) := by rw [IntKind.wrap_u64]; omega
      generalize wd (numOf f (k + 1)) q = D at *
      have hf6 : IntKind.u64.wrap ((f k : Nat) : Int) = ((f k : Nat) : Int) := by rw [IntKind.wrap_u64]; omega
      have hq3 : (q : Int) < 4 := by omega
      clear hq hr he
      go_wp2_with fail
      refine wp_region_mono 14 14 [] (fun _ => default) (by kernel_rfl) (by kernel_rfl) (fun _ _ _ _ _ h => h) ?_
      simp only [List.take_succ_cons, List.take_zero, List.drop_succ_cons, List.drop_zero]
      repeat (first
        | (apply head_pure rfl rfl rfl
           case h => (intro w1; go_simp; rfl)
           simp only [Act.put, List.setIfInBounds_toArray, List.set_cons_zero, List.set_cons_succ])
        | (apply head_val rfl rfl rfl rfl
           case h => (intro w1 hC; have cA := cell4 (n := numOf f k) (keep hC (hp_drew hA)) q hq4; clear hC; go_simp; rfl)
           simp only [Act.put, List.setIfInBounds_toArray, List.set_cons_zero, List.set_cons_succ]))
      refine head_nil ?_
      intro w3 hC _
      replace hw := below_tr hw hC
      replace hR := keep hC (hp_drew hR)
      replace hA := keep hC (hp_drew hA)
      clear hC
      have hA3 := hp_set (o := q) (v := .int .u64 D) hA
      rw [hcb] at hA3
      have hR3 := hp_set_ne (o := q) (v := .int .u64 D) (b' := w.heap.size + 1) hR (by omega)
      have hw3 := hw.setCell (p := ⟨w.heap.size + 1, q, none⟩) (by simp) (.int .u64 D)
      have cA := cell4 (n := numOf f k) hA q hq4
      have fA := frozen_of hA q
      clear hR hA hw
      go_wp2_with fail
      go_roundw
      case rel => exact ⟨k + 1, by omega, by go_num, hR3, hA3, hw3⟩
      case measure => simp [intOf]; omega
    · obtain rfl : k = 32 := by omega
      have cA := cell4 hA
      go_wp2_with (first | (refine wpList_storeBlk 4 rfl rfl rfl rfl hR rfl rfl (by kernel_rfl) (by kernel_rfl) ?_; intro w6 s6; simp only [Act.put]))
      exact bodyPost_ret (results_blk Try.results49 rfl s6.at_ Try.underlying26 rfl (by kernel_rfl)) rfl ⟨rfl, s6.below hw (by omega)⟩
end Go.Proofs.Ytdhaedjmlddjcaa
