/- r6.fold, r6.Mul: what each call comes to, for numbers of 256 bits. No other conditions. -/
import Derived.Test.YtdhaedjmlddjcaaRefB
namespace Go.Proofs.Ytdhaedjmlddjcaa
open Go.RowKit Go.Mono Go.Num
set_option maxHeartbeats 1000000 in
theorem fold_any (n : Nat) (w : World) (hn : n < W ^ 4 * W ^ 4) :
    Calls Try.prog 65 #[.agg (half16 n)] w fun e w' => ∃ O, e = .returned (num O) ∧ O < W ^ 4 ∧ O % p = n % p ∧ Below w.heap.size w w' := by
  have Hn := Lib.hid hn
  clear hn
  unfold half16
  go_enter Try.func65, Try.ntmps65
  go_wp2_with fail
  obtain ⟨w0, hq_w0⟩ : ∃ w0, (((w.alloc (.cells #[.int .u64 (hd n 0), .int .u64 (hd n 1), .int .u64 (hd n 2), .int .u64 (hd n 3), .int .u64 (hd n 4), .int .u64 (hd n 5), .int .u64 (hd n 6), .int .u64 (hd n 7), .int .u64 (hd n 8), .int .u64 (hd n 9), .int .u64 (hd n 10), .int .u64 (hd n 11), .int .u64 (hd n 12), .int .u64 (hd n 13), .int .u64 (hd n 14), .int .u64 (hd n 15)] 86)).alloc (.cells #[.int .u64 0, .int .u64 0, .int .u64 0, .int .u64 0] 26)).alloc (.cells #[.int .u64 0, .int .u64 0, .int .u64 0, .int .u64 0, .int .u64 0, .int .u64 0, .int .u64 0, .int .u64 0] 79)) = w0 := ⟨_, rfl⟩
  have hA : w0.heap[w.heap.size]? = some (.cells #[.int .u64 (hd n 0), .int .u64 (hd n 1), .int .u64 (hd n 2), .int .u64 (hd n 3), .int .u64 (hd n 4), .int .u64 (hd n 5), .int .u64 (hd n 6), .int .u64 (hd n 7), .int .u64 (hd n 8), .int .u64 (hd n 9), .int .u64 (hd n 10), .int .u64 (hd n 11), .int .u64 (hd n 12), .int .u64 (hd n 13), .int .u64 (hd n 14), .int .u64 (hd n 15)] 86) := by rw [← hq_w0]; exact hp_old _ (hp_old _ (hp_new _ (by simp)))
  have hR : w0.heap[w.heap.size + 1]? = some (.cells #[.int .u64 0, .int .u64 0, .int .u64 0, .int .u64 0] 26) := by rw [← hq_w0]; exact hp_old _ (hp_new _ (by simp))
  have hO : w0.heap[w.heap.size + 1 + 1]? = some (.cells #[.int .u64 0, .int .u64 0, .int .u64 0, .int .u64 0, .int .u64 0, .int .u64 0, .int .u64 0, .int .u64 0] 79) := by rw [← hq_w0]; exact hp_new _ (by simp)
  have hs_w0 : w0.heap.size = w.heap.size + 3 := by rw [← hq_w0]; simp
  have hw_w0 : Below w.heap.size w w0 := by rw [← hq_w0]; exact (((Below.refl w.heap.size w).alloc (Nat.le_refl _) _).alloc (by simp) _).alloc (by simp; omega) _
  rw [hq_w0]
  clear hq_w0
  rw [← half8_zero] at hO
  replace hA : w0.heap[w.heap.size]? = some (.cells (half16 n) 86) := hA
  go_loopw [4, 5] (fun c i wr => ∃ (k O C : Nat), k ≤ 8 ∧ i = .int .i64 k ∧ c = .int .u64 C ∧ FoldsV n k O C ∧ wr.heap[w.heap.size]? = some (.cells (half16 n) 86) ∧ wr.heap[w.heap.size + 1]? = some (.cells #[.int .u64 0, .int .u64 0, .int .u64 0, .int .u64 0] 26) ∧ wr.heap[w.heap.size + 1 + 1]? = some (.cells (half8 O) 79) ∧ Below w.heap.size w wr) (fun _ i _ => 8 - (intOf i).toNat)
  case atStart => exact ⟨0, 0, 0, by omega, rfl, rfl, FoldsV.start n, hA, hR, hO, hw_w0⟩
  case round =>
    clear hA hR hO hw_w0 hs_w0
    obtain ⟨k, O, C, hk, rfl, rfl, hin, hA, hR, hO, hw⟩ := hrel
    by_cases hlt : k < 8
    · have hlt' : (k : Int) < 8 := by omega
      have hlt16 : (k : Int) < 16 := by omega
      have hcA := fun (w1 : World) (hC : Below wr.drew.heap.size wr.drew w1) => half16_at (keep hC (hp_drew hA)) k (by omega)
      have hcB := fun (w1 : World) (hC : Below wr.drew.heap.size wr.drew w1) => half16_at (keep hC (hp_drew hA)) (k + 8) (by omega)
      have cO0 := half8_cell O k hlt
      have hnx := hin.next
      have b1 := hd_lt n k
      have b2 := hd_lt n (k + 8)
      have b3 := hin.c_le
      have m1 : IntKind.i64.wrap ((k : Int) + 8) = ((k + 8 : Nat) : Int) := by rw [IntWalk.i64_in _ (by omega)]; rfl
      have m2 : ((k + 8 : Nat) : Int) < 16 := by omega
      rw [show 8 + k = k + 8 by omega] at hnx
      have hset : ∀ v, v < V → (half8 O).setIfInBounds k (.int .u64 v) = half8 (seth O k v) := fun v hv => half8_set O k v hlt hv
      have hl2 : (hd n (k + 8) * 38 + C + hd n k) % 4294967296 < V := Nat.mod_lt _ (by decide)
      have hset2 := hset _ hl2
      have e1 : IntKind.u64.wrap ((C : Int) + (hd n k : Int)) = ((C + hd n k : Nat) : Int) := by rw [IntWalk.u64_in _ (by omega)]; rfl
      have e2 : IntKind.u64.wrap (38 * (hd n (k + 8) : Int)) = ((hd n (k + 8) * 38 : Nat) : Int) := by rw [IntWalk.u64_in _ (by omega)]; omega
      have e3 : IntKind.u64.wrap (((C + hd n k : Nat) : Int) + ((hd n (k + 8) * 38 : Nat) : Int)) = ((hd n (k + 8) * 38 + C + hd n k : Nat) : Int) := by rw [IntWalk.u64_in _ (by omega)]; omega
      have hT : hd n (k + 8) * 38 + C + hd n k < 18446744073709551616 := by omega
      clear hset hl2 b1 b2 b3 hin
      generalize hd n (k + 8) * 38 + C + hd n k = T at *
      have a1 : bits .and .u64 (T : Int) 4294967295 = ((T % 4294967296 : Nat) : Int) := and32 T hT
      have a2 : (T : Int) / 4294967296 = ((T / 4294967296 : Nat) : Int) := rfl
      generalize T % 4294967296 = L at *
      generalize T / 4294967296 = H at *
      generalize C + hd n k = S at *
      generalize hd n (k + 8) * 38 = P at *
      generalize hd n (k + 8) = X at *
      generalize hd n k = Y at *
      have Hnx := Lib.hid hnx
      clear hnx hT
      generalize seth O k L = N2 at *
      generalize k + 8 = J at *
      go_wp2_with fail
      refine wp_region_calm (by kernel_rfl) (by kernel_rfl) ?_
      repeat (first
        | (refine calm_not rfl ?_
           simp only [Act.put, List.setIfInBounds_toArray, List.set_cons_zero, List.set_cons_succ])
        | (apply calm_pure rfl
           case h => (intro w1; go_simp; rfl)
           simp only [Act.put, List.setIfInBounds_toArray, List.set_cons_zero, List.set_cons_succ])
        | (apply calm_val rfl
           case h => (intro w1 hC; have cX := hcA w1 hC; have cY := hcB w1 hC; clear hC; go_simp; rfl)
           simp only [Act.put, List.setIfInBounds_toArray, List.set_cons_zero, List.set_cons_succ]))
      refine wpQuiet_nil ?_
      intro w5 hC
      clear hcA hcB e1 e2 e3 m1 m2
      replace hw := below_tr hw hC
      replace hA := keep hC (hp_drew hA)
      replace hR := keep hC (hp_drew hR)
      replace hO := keep hC (hp_drew hO)
      clear hC
      have cO := (cell_of hO k).trans cO0
      have fO := frozen_of hO k
      have hO3 := hp_set (o := k) (v := .int .u64 L) hO
      rw [hset2] at hO3
      have hA3 := hp_set_ne (o := k) (v := .int .u64 L) (b' := w.heap.size + 1 + 1) hA (by omega)
      have hR3 := hp_set_ne (o := k) (v := .int .u64 L) (b' := w.heap.size + 1 + 1) hR (by omega)
      have hw3 := hw.setCell (p := ⟨w.heap.size + 1 + 1, k, none⟩) (by simp; omega) (.int .u64 (L : Int))
      clear hR hA hO hw hset2
      go_wp2_with fail
      go_roundw
      case rel => exact ⟨k + 1, _, _, by omega, by go_num, rfl, Hnx.out, hA3, hR3, hO3, hw3⟩
      case measure => simp [intOf]; omega
    · obtain rfl : k = 8 := by omega
      clear hA
      have hl := LastV.start hin Hn.out
      clear hin hk hlt
      go_wp2_with fail
      go_loopg [4] (O + C * V ^ 8) (fun gk c wr => ∃ (O C : Nat), c = .int .u64 C ∧ LastV n gk O C ∧ wr.heap[w.heap.size + 1]? = some (.cells #[.int .u64 0, .int .u64 0, .int .u64 0, .int .u64 0] 26) ∧ wr.heap[w.heap.size + 1 + 1]? = some (.cells (half8 O) 79) ∧ Below w.heap.size w wr)
      case atStart => exact ⟨O, C, rfl, hl, hR, hO, hw⟩
      case round =>
        clear hl hR hO hw
        obtain ⟨O, C, rfl, hl, hR, hO, hw⟩ := hrel
        by_cases hc : 0 < C
        · have hm38 : IntKind.u64.wrap (38 * (C : Int)) = ((38 * C : Nat) : Int) := by have := hl.c_le; rw [IntWalk.u64_in _ (by omega)]; omega
          have hs := hl.spread
          have Hl := Lib.hid hl
          have Hc := Lib.hid hc
          have hdc : decide (0 < (C : Int)) = true := by simp; omega
          have hM0 : 0 < 38 * C := by omega
          clear hl hc
          generalize 38 * C = M0 at *
          go_wp2_with fail
          go_loopw [6, 7] (fun vm vi wr => ∃ (i N M : Nat), i ≤ 8 ∧ vi = .int .i64 i ∧ vm = .int .u64 M ∧ SpreadV (O + C * 38) i N M ∧ (i = 0 → 0 < M) ∧ wr.heap[w.heap.size + 1]? = some (.cells #[.int .u64 0, .int .u64 0, .int .u64 0, .int .u64 0] 26) ∧ wr.heap[w.heap.size + 1 + 1]? = some (.cells (half8 N) 79) ∧ Below w.heap.size w wr) (fun _ vi _ => 8 - (intOf vi).toNat)
          case atStart => exact ⟨0, O, M0, by omega, rfl, rfl, hs, fun _ => hM0, hR, hO, hw⟩
          case round =>
            clear hs hR hO hw hM0 hdc hm38
            obtain ⟨i, N, M, hi, rfl, rfl, hs, h0, hR, hO, hw⟩ := hrel
            have H0 := Lib.hid h0
            clear h0
            by_cases hlt : i < 8
            · have hlt' : (i : Int) < 8 := by omega
              by_cases hm : 0 < M
              · have hm' : (0 : Int) < (M : Int) := by omega
                have hnx := hs.next hlt
                have cO := half8_at hO i hlt
                have fO := frozen_of hO i
                have b1 := hd_lt N i
                have b2 := hs.m_lt
                have e1 : IntKind.u64.wrap ((M : Int) + (hd N i : Int)) = ((M + hd N i : Nat) : Int) := by rw [IntWalk.u64_in _ (by omega)]; rfl
                have hT : M + hd N i < 18446744073709551616 := by omega
                have hl2 : (M + hd N i) % 4294967296 < V := Nat.mod_lt _ (by decide)
                have hset := half8_set N i _ hlt hl2
                generalize M + hd N i = T at *
                have a1 : bits .and .u64 (T : Int) 4294967295 = ((T % 4294967296 : Nat) : Int) := and32 T hT
                have a2 : (T : Int) / 4294967296 = ((T / 4294967296 : Nat) : Int) := rfl
                clear hs b1 b2 hT hl2
                generalize T % 4294967296 = L at *
                generalize T / 4294967296 = H at *
                generalize hd N i = Y at *
                have Hnx := Lib.hid hnx
                clear hnx
                have hO3 := hp_set (o := i) (v := .int .u64 L) hO
                rw [hset] at hO3
                have hR3 := hp_set_ne (o := i) (v := .int .u64 L) (b' := w.heap.size + 1 + 1) hR (by omega)
                have hw3 := hw.setCell (p := ⟨w.heap.size + 1 + 1, i, none⟩) (by simp; omega) (.int .u64 (L : Int))
                clear hR hO hw hset
                go_wp2_with fail
                go_roundw
                case rel => exact ⟨i + 1, _, _, by omega, by go_num, rfl, Hnx.out, fun h => absurd h (by omega), hR3, hO3, hw3⟩
                case measure => simp [intOf]; omega
              · obtain rfl : M = 0 := by omega
                have hi0 : 0 < i := Nat.pos_of_ne_zero (fun h => absurd (H0.out h) (by omega))
                obtain ⟨n1, n2⟩ := Hl.out.next Hc.out hs (.inr rfl) hi0
                have N1 := Lib.hid n1
                have N2 := Lib.hid n2
                clear n1 n2 hs
                go_wp2_with fail
                go_roundg (O + C * 38)
                case measure => exact N1.out
                case rel => exact ⟨_, _, rfl, N2.out, hR, hO, hw⟩
            · obtain rfl : i = 8 := by omega
              obtain ⟨n1, n2⟩ := Hl.out.next Hc.out hs (.inl rfl) (by omega)
              have N1 := Lib.hid n1
              have N2 := Lib.hid n2
              clear n1 n2 hs
              go_wp2_with fail
              go_roundg (O + C * 38)
              case measure => exact N1.out
              case rel => exact ⟨_, _, rfl, N2.out, hR, hO, hw⟩
        · obtain rfl : C = 0 := by omega
          have Hfin := Lib.hid hl.stop
          have Hlt := Lib.hid (show O < W ^ 4 by rw [← V8]; exact hl.lt)
          have hpk : (.agg (half8 O) : Value) = .agg #[.int .u64 (hd O 0), .int .u64 (hd O 1), .int .u64 (hd O 2), .int .u64 (hd O 3), .int .u64 (hd O 4), .int .u64 (hd O 5), .int .u64 (hd O 6), .int .u64 (hd O 7)] := rfl
          have hwh := fun w => whole_any O w
          rw [hpk] at hwh
          have Hwh := Lib.hid hwh
          have cO := half8_at hO
          clear hl hc hwh hpk
          go_wp2_with fail
          refine (Hwh.out _).mono ?_
          rintro e w6 ⟨rfl, hb⟩
          clear cO
          replace hw := below_tr' hw hb
          replace hR := keep hb hR
          clear hb
          rename_i hK_; refine hK_ _ _ ?_; clear hK_
          refine wpList_storeBlk 4 rfl rfl rfl rfl hR rfl rfl (by kernel_rfl) (by kernel_rfl) ?_
          intro w7 s7
          simp only [Act.put]
          go_wp2_with fail
          exact bodyPost_ret (results_blk Try.results65 rfl s7.at_ Try.underlying26 rfl (by kernel_rfl)) rfl ⟨O, rfl, Hlt.out, Hfin.out, s7.below hw (by omega)⟩
set_option maxHeartbeats 400000 in
theorem rmulf_any (a b : Nat) (w : World) (ha : a < W ^ 4) (hb : b < W ^ 4) :
    Calls Try.prog 51 #[num a, num b] w fun e w' => e = .returned (num (fmul a b)) ∧ Below w.heap.size w w' := by
  have Ha := Lib.hid ha
  have Hb := Lib.hid hb
  have Hab := Lib.hid (Nat.mul_lt_mul'' ha hb)
  clear ha hb
  go_enter Try.func51, Try.ntmps51
  go_wp2_with fail
  obtain ⟨w0, hq_w0⟩ : ∃ w0, (((w.alloc (.cells #[.int .u64 (wd a 0), .int .u64 (wd a 1), .int .u64 (wd a 2), .int .u64 (wd a 3)] 26)).alloc (.cells #[.int .u64 (wd b 0), .int .u64 (wd b 1), .int .u64 (wd b 2), .int .u64 (wd b 3)] 26)).alloc (.cells #[.int .u64 0, .int .u64 0, .int .u64 0, .int .u64 0] 26)) = w0 := ⟨_, rfl⟩
  have hA : w0.heap[w.heap.size]? = some (.cells #[.int .u64 (wd a 0), .int .u64 (wd a 1), .int .u64 (wd a 2), .int .u64 (wd a 3)] 26) := by rw [← hq_w0]; exact hp_old _ (hp_old _ (hp_new _ (by simp)))
  have hB : w0.heap[w.heap.size + 1]? = some (.cells #[.int .u64 (wd b 0), .int .u64 (wd b 1), .int .u64 (wd b 2), .int .u64 (wd b 3)] 26) := by rw [← hq_w0]; exact hp_old _ (hp_new _ (by simp))
  have hR : w0.heap[w.heap.size + 1 + 1]? = some (.cells #[.int .u64 0, .int .u64 0, .int .u64 0, .int .u64 0] 26) := by rw [← hq_w0]; exact hp_new _ (by simp)
  have hs_w0 : w0.heap.size = w.heap.size + 3 := by rw [← hq_w0]; simp
  have hw_w0 : Below w.heap.size w w0 := by rw [← hq_w0]; exact (((Below.refl w.heap.size w).alloc (Nat.le_refl _) _).alloc (by simp) _).alloc (by simp; omega) _
  rw [hq_w0]
  clear hq_w0
  clear hs_w0
  refine (rmul_any a b _ Ha.out Hb.out).mono ?_
  rintro e w1 ⟨rfl, hb⟩
  replace hw_w0 := below_tr' hw_w0 hb
  replace hR := keep hb hR
  clear hb
  go_wp2_with fail
  refine (fold_any (a * b) _ Hab.out).mono ?_
  rintro e w2 ⟨O, rfl, hOl, hOp, hb⟩
  have Hfin := Lib.hid (show fnorm O = fmul a b from hOp)
  have HO := Lib.hid hOl
  clear hOl hOp
  replace hw_w0 := below_tr' hw_w0 hb
  replace hR := keep hb hR
  clear hb
  go_wp2_with fail
  refine (rnorm_any O _ HO.out).mono ?_
  rw [Hfin.out]
  rintro e w3 ⟨rfl, hb⟩
  replace hw_w0 := below_tr' hw_w0 hb
  replace hR := keep hb hR
  clear hb
  rename_i hK_; refine hK_ _ _ ?_; clear hK_
  refine wpList_storeBlk 4 rfl rfl rfl rfl hR rfl rfl (by kernel_rfl) (by kernel_rfl) ?_
  intro w7 s7
  simp only [Act.put]
  go_wp2_with fail
  exact bodyPost_ret (results_blk Try.results51 rfl s7.at_ Try.underlying26 rfl (by kernel_rfl)) rfl ⟨rfl, s7.below hw_w0 (by omega)⟩
end Go.Proofs.Ytdhaedjmlddjcaa
