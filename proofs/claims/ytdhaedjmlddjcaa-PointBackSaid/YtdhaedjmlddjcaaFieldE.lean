/- field.Mul: products modulo the prime, for all numbers of 256 bits. No other conditions. -/
import Derived.Test.YtdhaedjmlddjcaaFieldD
import Derived.Deep.LoopGhost
namespace Go.Proofs.Ytdhaedjmlddjcaa
open Go.RowKit Go.Mono Go.Num

theorem add64z (x y : Nat) (w : World) :
    (callFunc 59 #[.int .u64 x, .int .u64 y, .int .u64 0]).run Try.prog w =
      .ok (.value (.tuple #[.int .u64 (sumLo x y), .int .u64 (sumHi x y)])) w := by
  have h := add64 x y 0 (by omega) w
  rw [Nat.add_zero] at h
  exact h
theorem mul64_pro (x y : Nat) (w : World) (hx : x < 18446744073709551616) (hy : y < 18446744073709551616) :
    Calls Try.prog 58 #[.int .u64 x, .int .u64 y] w fun e w' => e = .returned (.tuple #[.int .u64 (proHi x y), .int .u64 (proLo x y)]) ∧ w = w' := mul64_any x y w hx hy

set_option maxHeartbeats 1000000 in
theorem mul_any (a b : Nat) (w : World) (ha : a < W ^ 4) (hb : b < W ^ 4) :
    Calls Try.prog 34 #[num a, num b] w fun e w' => e = .returned (num (a * b % p)) ∧ Below w.heap.size w w' := by
  have Ha := Lib.hid ha
  have Hb := Lib.hid hb
  clear ha hb
  go_enter Try.func34, Try.ntmps34
  go_wp2_with fail
  go_loopw [21] (fun i wr => ∃ k : Nat, k ≤ 4 ∧ i = .int .i64 k ∧ wr.heap[w.heap.size + 1]? = some (.cells (cells4 b) 26) ∧ wr.heap[w.heap.size + 1 + 1]? = some (.cells #[.int .u64 0, .int .u64 0, .int .u64 0, .int .u64 0] 26) ∧ wr.heap[w.heap.size + 1 + 1 + 1]? = some (.cells (cells8 (a % W ^ k * b)) 79) ∧ Below w.heap.size w wr) (fun i _ => 4 - (intOf i).toNat)
  case atStart =>
    exact ⟨0, by omega, rfl, hp_old _ (hp_old _ (hp_new _ (by simp))), hp_old _ (hp_new _ (by simp)), by rw [Nat.pow_zero, Nat.mod_one, Nat.zero_mul, cells8_zero]; exact hp_new _ (by simp),
      ((((Below.refl _ _).alloc (Nat.le_refl _) _).alloc (by simp) _).alloc (by simp; omega) _).alloc (by simp; omega) _⟩
  case round =>
    obtain ⟨i, hi, rfl, hb, hz, hN, hbelow⟩ := hrel
    by_cases hlt : i < 4
    · have hix := idx_num a i hlt
      have cb := cell4 hb
      have hdi : decide ((i : Int) < 4) = true := by simp; omega
      go_wp2_with fail
      clear hix cb hdi
      obtain ⟨wo, rfl⟩ : ∃ wo : World, wo = wr := ⟨_, rfl⟩
      go_loopw [8, 26] (fun c k wr => ∃ (j N C : Nat), j ≤ 4 ∧ k = .int .i64 j ∧ c = .int .u64 C ∧ Inner a b i j N C ∧ wr.heap[w.heap.size + 1]? = some (.cells (cells4 b) 26) ∧ wr.heap[w.heap.size + 1 + 1]? = some (.cells #[.int .u64 0, .int .u64 0, .int .u64 0, .int .u64 0] 26) ∧ wr.heap[w.heap.size + 1 + 1 + 1]? = some (.cells (cells8 N) 79) ∧ Below w.heap.size w wr) (fun _ k _ => 4 - (intOf k).toNat)
      case atStart => exact ⟨0, _, 0, by omega, rfl, rfl, Inner.start a b i Hb.out, hb, hz, hN, hbelow⟩
      case round =>
        clear hb hz hN hbelow
        obtain ⟨j, N, C, hj, rfl, rfl, hin, hb, hz, hN, hbelow⟩ := hrel
        by_cases hlj : j < 4
        · have hix := idx_num b j hlj
          have Hin := Lib.hid hin
          have hadd := add64z
          have hij : i + j < 8 := by omega
          have cN := cells8_at hN (i + j) hij
          have cf := frozen_of hN (i + j)
          have e1 := wrap_hi1 (wd_lt a i) (wd_lt b j) hin.c_lt
          have e2 := @sum_lo2 (wd a i) (wd b j) C (wd N (i + j))
          have e3 := wrap_hi2 (wd_lt a i) (wd_lt b j) hin.c_lt (wd_lt N (i + j))
          have hb3 := hp_set_ne (o := i + j) (v := .int .u64 (lo2 (wd a i) (wd b j) C (wd N (i + j)))) (b' := w.heap.size + 1 + 1 + 1) hb (by omega)
          have hz3 := hp_set_ne (o := i + j) (v := .int .u64 (lo2 (wd a i) (wd b j) C (wd N (i + j)))) (b' := w.heap.size + 1 + 1 + 1) hz (by omega)
          have hN3 := hp_set (o := i + j) (v := .int .u64 (lo2 (wd a i) (wd b j) C (wd N (i + j)))) hN
          rw [cells8_set _ _ _ hij lo2_lt] at hN3
          have hw3 := hbelow.setCell (p := ⟨w.heap.size + 1 + 1 + 1, i + j, none⟩) (by simp; omega) (.int .u64 (lo2 (wd a i) (wd b j) C (wd N (i + j))))
          clear hin hb hz hN hbelow
          go_wp2_with (go_at_call 58; refine (mul64_pro (wd a i) (wd b j) _ (wd_lt _ _) (wd_lt _ _)).mono ?_; rintro e w' ⟨rfl, rfl⟩)
          go_roundw
          case rel => exact ⟨j + 1, _, _, by omega, by go_num, rfl, Hin.out.next hlj, hb3, hz3, hN3, hw3⟩
          case measure => simp [intOf]; omega
        · obtain rfl : j = 4 := by omega
          have hcN := cells8_at hN (i + 4) (by omega)
          have hfN := frozen_of hN (i + 4)
          have hv : C < W := hin.c_lt
          have hb3 := hp_set_ne (o := i + 4) (v := .int .u64 C) (b' := w.heap.size + 1 + 1 + 1) hb (by omega)
          have hz3 := hp_set_ne (o := i + 4) (v := .int .u64 C) (b' := w.heap.size + 1 + 1 + 1) hz (by omega)
          have hN3 := hp_set (o := i + 4) (v := .int .u64 C) hN
          rw [cells8_set _ _ _ (by omega) hv, hin.stop Hb.out] at hN3
          have hw3 := hbelow.setCell (p := ⟨w.heap.size + 1 + 1 + 1, i + 4, none⟩) (by simp; omega) (.int .u64 C)
          clear hin hb hz hN hbelow hv
          go_wp2
          go_roundw
          case rel => exact ⟨i + 1, by omega, by go_num, hb3, hz3, hN3, hw3⟩
          case measure => simp [intOf]; omega
    · have h4 : i = 4 := by omega
      rw [h4, Nat.mod_eq_of_lt Ha.out] at hN
      clear h4
      go_wp2_with fail
      have hz2 := hp_old (.cells #[.int .u64 0, .int .u64 0, .int .u64 0, .int .u64 0] 26) hz
      have hN2 := hp_old (.cells #[.int .u64 0, .int .u64 0, .int .u64 0, .int .u64 0] 26) hN
      have hO2 : (wr.alloc (.cells #[.int .u64 0, .int .u64 0, .int .u64 0, .int .u64 0] 26)).heap[wr.heap.size]? = some (.cells (cells4 0) 26) := by rw [cells4_zero]; exact hp_new _ rfl
      have hw2 := hbelow.alloc hbelow.size (.cells #[.int .u64 0, .int .u64 0, .int .u64 0, .int .u64 0] 26)
      have hlt3 : w.heap.size + 1 + 1 + 1 < wr.heap.size := Go.Mono.lt_of_some hN
      clear hb hz hN hbelow hi hlt
      generalize wr.heap.size = bO at *
      generalize wr.alloc (.cells #[.int .u64 0, .int .u64 0, .int .u64 0, .int .u64 0] 26) = w2 at *
      go_loopw [15, 69] (fun c i wr => ∃ (k O C : Nat), k ≤ 4 ∧ i = .int .i64 k ∧ c = .int .u64 C ∧ Folds (a * b) k O C ∧ wr.heap[w.heap.size + 1 + 1]? = some (.cells #[.int .u64 0, .int .u64 0, .int .u64 0, .int .u64 0] 26) ∧ wr.heap[w.heap.size + 1 + 1 + 1]? = some (.cells (cells8 (a * b)) 79) ∧ wr.heap[bO]? = some (.cells (cells4 O) 26) ∧ Below w.heap.size w wr) (fun _ i _ => 4 - (intOf i).toNat)
      case atStart => exact ⟨0, 0, 0, by omega, rfl, rfl, Folds.start _, hz2, hN2, hO2, hw2⟩
      case round =>
        clear hz2 hN2 hO2 hw2
        obtain ⟨k, O, C, hk, rfl, rfl, hin, hz, hN, hO, hbelow⟩ := hrel
        by_cases hlk : k < 4
        · have Hin := Lib.hid hin
          have hadd := add64z
          have cN := cells8_at hN (4 + k) (by omega)
          have cM := cells8_at hN k (by omega)
          have cO := cell4 hO k hlk
          have cf := frozen_of hO k
          have e1 := wrap_hi1 (wd_lt (a * b) (4 + k)) (show 38 < 18446744073709551616 by decide) hin.c_lt
          have e2 := @sum_lo2 (wd (a * b) (4 + k)) 38 C (wd (a * b) k)
          have e3 := wrap_hi2 (wd_lt (a * b) (4 + k)) (show 38 < 18446744073709551616 by decide) hin.c_lt (wd_lt (a * b) k)
          have hz3 := hp_set_ne (o := k) (v := .int .u64 (lo2 (wd (a * b) (4 + k)) 38 C (wd (a * b) k))) (b' := bO) hz (by omega)
          have hN3 := hp_set_ne (o := k) (v := .int .u64 (lo2 (wd (a * b) (4 + k)) 38 C (wd (a * b) k))) (b' := bO) hN (by omega)
          have hO3 := hp_set (o := k) (v := .int .u64 (lo2 (wd (a * b) (4 + k)) 38 C (wd (a * b) k))) hO
          rw [cells4_set _ _ _ hlk lo2_lt] at hO3
          have hw3 := hbelow.setCell (p := ⟨bO, k, none⟩) (by simp; omega) (.int .u64 (lo2 (wd (a * b) (4 + k)) 38 C (wd (a * b) k)))
          clear hin hz hN hO hbelow
          go_wp2_with (go_at_call 58; refine (mul64_pro (wd (a * b) (4 + k)) 38 _ (wd_lt _ _) (by decide)).mono ?_; rintro e w' ⟨rfl, rfl⟩)
          go_roundw
          case rel => exact ⟨k + 1, _, _, by omega, by go_num, rfl, Hin.out.next, hz3, hN3, hO3, hw3⟩
          case measure => simp [intOf]; omega
        · have h4 : k = 4 := by omega
          rw [h4] at hin
          clear h4
          have hl := Last.start hin (by exact Nat.mul_lt_mul'' Ha.out Hb.out)
          go_wp2_with fail
          go_loopg [15] (O + C * W ^ 4) (fun gk c wr => ∃ (O C : Nat), c = .int .u64 C ∧ Last (a * b) gk O C ∧ wr.heap[w.heap.size + 1 + 1]? = some (.cells #[.int .u64 0, .int .u64 0, .int .u64 0, .int .u64 0] 26) ∧ wr.heap[bO]? = some (.cells (cells4 O) 26) ∧ Below w.heap.size w wr)
          case atStart => exact ⟨O, C, rfl, hl, hz, hO, hbelow⟩
          case round =>
            clear hl hz hO hbelow hN hin hk hlk
            obtain ⟨O, C, rfl, hl, hz, hO, hbelow⟩ := hrel
            have hcO := cell4 hO
            by_cases hc : 0 < C
            · obtain ⟨hlt, hl2⟩ := hl.next hc
              have Hlt := Lib.hid hlt
              have Hl2 := Lib.hid hl2
              have hwr := mul_wrap38 hl
              have hdc : decide (0 < (C : Int)) = true := by simp; omega
              clear hl hlt hl2
              go_wp2_with fail
              refine (more_any O (C * 38) _).mono ?_
              rintro e w3 ⟨rfl, hb3⟩
              have hz3 := keep hb3 hz
              have hO3 := keep hb3 hO
              have hw3 := below_tr' hbelow hb3
              clear hcO hz hO hbelow hb3 hwr
              have cO := cell4 hO3
              have cOf := frozen_of hO3
              have hz4 := st4_other (b := bO) (n := (O + C * 38) % W ^ 4) hz3 (by omega)
              have hO4 := st4_at (n := (O + C * 38) % W ^ 4) hO3
              have hw4 := st4_below (b := bO) (n := (O + C * 38) % W ^ 4) hw3 (by omega)
              go_wp2
              simp only [st4_eq]
              go_roundg (O + C * 38)
              case measure => exact Hlt.out
              case rel => exact ⟨_, _, rfl, Hl2.out, hz4, hO4, hw4⟩
            · have hC : C = 0 := by omega
              subst hC
              have hfin := hl.stop
              have Hfin := Lib.hid hfin
              have hOl := Lib.hid hl.lt
              clear hl hfin
              go_wp2_with fail
              refine (norm_any O _ hOl.out).mono ?_
              rintro e w5 ⟨rfl, hb5⟩
              rw [Hfin.out]
              have hz5 := keep hb5 hz
              have hw5 := below_tr' hbelow hb5
              have cz0 := cell_of hz5 0
              have cz1 := cell_of hz5 1
              have cz2 := cell_of hz5 2
              have cz3 := cell_of hz5 3
              have czf := frozen_of hz5
              have hc := cell4 (st4_at (n := a * b % p) hz5)
              have hB := st4_below (b := w.heap.size + 1 + 1) (n := a * b % p) hw5 (by omega)
              clear hcO hz hO hbelow hb5
              go_wp2
              simp only [st4_eq]
              exact bodyPost_ret (v := num (a * b % p)) (by simp [results, Try.results34, go_sem, hc]) rfl ⟨rfl, hB⟩

theorem norm_f (a : Nat) (w : World) (ha : a < W ^ 4) :
    Calls Try.prog 33 #[num a] w fun e w' => e = .returned (num (fnorm a)) ∧ Below w.heap.size w w' := norm_any a w ha
theorem add_f (a b : Nat) (w : World) (ha : a < W ^ 4) (hb : b < W ^ 4) :
    Calls Try.prog 36 #[num a, num b] w fun e w' => e = .returned (num (fadd a b)) ∧ Below w.heap.size w w' := add_any a b w ha hb
theorem sub_f (a b : Nat) (w : World) (ha : a < W ^ 4) (hb : b < W ^ 4) :
    Calls Try.prog 35 #[num a, num b] w fun e w' => e = .returned (num (fsub a b)) ∧ Below w.heap.size w w' := sub_any a b w ha hb
theorem mul_f (a b : Nat) (w : World) (ha : a < W ^ 4) (hb : b < W ^ 4) :
    Calls Try.prog 34 #[num a, num b] w fun e w' => e = .returned (num (fmul a b)) ∧ Below w.heap.size w w' := mul_any a b w ha hb
end Go.Proofs.Ytdhaedjmlddjcaa
