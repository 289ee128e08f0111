/- point.Bytes: the bytes of Y, the highest bit that of X. No conditions beyond the size of Y. -/
import Derived.Test.YtdhaedjmlddjcaaBytes
import Derived.Test.YtdhaedjmlddjcaaRowB
import Derived.Laws.BitsAllLaws
namespace Go.Proofs.Ytdhaedjmlddjcaa
open Go.RowKit Go.Mono Go.Num

/-- The bytes of a point. -/
def pbyte (x y j : Nat) : Nat := if x % 2 = 1 then (if j = 31 then byteAt (fnorm y) 31 ||| 128 else byteAt (fnorm y) j) else byteAt (fnorm y) j
theorem fin1 (x y N : Nat) (hN : fnorm y = N) (hm : x % 2 = 1) : pbyte x y = fun j => if j = 31 then byteAt N 31 ||| 128 else byteAt N j := by
  funext j
  unfold pbyte
  rw [hN, if_pos hm]
theorem fin0 (x y N : Nat) (hN : fnorm y = N) (hm : ¬ x % 2 = 1) : pbyte x y = byteAt N := by
  funext j
  unfold pbyte
  rw [hN, if_neg hm]
set_option maxHeartbeats 400000 in
theorem pbytes_any (x y : Nat) (w : World) (hy : y < W ^ 4) :
    Calls Try.prog 13 #[pt x y] w fun e w' => e = .returned (.string (bstr (pbyte x y) 32)) ∧ Below w.heap.size w w' := by
  have Hy := Lib.hid hy
  clear hy
  have h0 : wd x 0 % 2 = x % 2 := by
    unfold wd
    rw [Nat.pow_zero, Nat.div_one]
    exact Nat.mod_mod_of_dvd x (by decide)
  have ha := and1 (wd x 0) (wd_lt x 0)
  rw [h0] at ha
  clear h0
  obtain ⟨B, hB⟩ : ∃ B, pbyte x y = B := ⟨_, rfl⟩
  have HB := Lib.hid hB
  rw [hB]
  clear hB
  go_enter Try.func13, Try.ntmps13
  go_wp2_with fail
  obtain ⟨w0, hq_w0⟩ : ∃ w0, (w.alloc (.cells #[.int .u64 (wd x 0), .int .u64 (wd x 1), .int .u64 (wd x 2), .int .u64 (wd x 3), .int .u64 (wd y 0), .int .u64 (wd y 1), .int .u64 (wd y 2), .int .u64 (wd y 3)] 28)) = w0 := ⟨_, rfl⟩
  have hx : w0.heap[w.heap.size]? = some (.cells #[.int .u64 (wd x 0), .int .u64 (wd x 1), .int .u64 (wd x 2), .int .u64 (wd x 3), .int .u64 (wd y 0), .int .u64 (wd y 1), .int .u64 (wd y 2), .int .u64 (wd y 3)] 28) := by rw [← hq_w0]; exact hp_new _ (by simp)
  have hs_w0 : w0.heap.size = w.heap.size + 1 := by rw [← hq_w0]; simp
  have hw_w0 : Below w.heap.size w w0 := by rw [← hq_w0]; exact (Below.refl w.heap.size w).alloc (Nat.le_refl _) _
  rw [hq_w0]
  clear hq_w0
  clear hs_w0
  have cx := cell_of hx
  go_wp2_with fail
  refine (fbytes_any y _ Hy.out).mono ?_
  rintro e w1 ⟨rfl, hb⟩
  clear cx
  replace hw_w0 := below_tr' hw_w0 hb
  replace hx := keep hb hx
  clear hb
  obtain ⟨c, s, z, w2, hz, hs32, hcv, hs, hb⟩ := run_bytes_new (P := Try.prog) w1 9 49 5 32 (byteAt (fnorm y)) (byteAt_lt _) Try.underlying9 Try.underlying49 Try.underlying5
  have hN : ∃ N, fnorm y = N := ⟨_, rfl⟩
  obtain ⟨N, hN⟩ := hN
  have HN := Lib.hid hN
  rw [hN] at hcv hs ⊢
  clear hN
  have hlx := Go.Mono.lt_of_some hx
  replace hw_w0 := below_tr' hw_w0 hb
  replace hx := keep hb hx
  clear hb
  generalize w1.heap.size = bS at *
  have cx : w2.cell? ⟨w.heap.size, 0, none⟩ = some (.int .u64 (wd x 0)) := by rw [cell_of hx]; rfl
  have cs := brow_at hs 31 (by decide)
  have fs := frozen_row hz hs 31 (by omega)
  generalize hX : bits .and .u64 ((wd x 0 : Nat) : Int) 1 = X at *
  by_cases hm : x % 2 = 1
  · rw [hm] at ha
    subst ha
    have hs2 := hp_set (o := 31) (v := .int .u8 ((byteAt N 31 ||| 128 : Nat) : Int)) hs
    rw [brow_set _ (by decide)] at hs2
    have hw2 := hw_w0.setCell (p := ⟨bS, 31, none⟩) (by simp; omega) (.int .u8 ((byteAt N 31 ||| 128 : Nat) : Int))
    have hor : bits .or .u8 ((byteAt N 31 : Nat) : Int) 128 = ((byteAt N 31 ||| 128 : Nat) : Int) := u8_or_nat _ 128 (byteAt_lt _ _) (by decide)
    have hst := run_brow (P := Try.prog) (c := c) hs2 Try.underlying49 Try.underlying5 Try.underlying9
    rw [show (fun j => if j = 31 then byteAt N 31 ||| 128 else byteAt N j) = fun j => (if j = 31 then byteAt N 31 ||| 128 else byteAt N j) from rfl] at hst
    clear hs hx hs2 hz hw_w0
    go_wp2_with fail
    go_ret
    exact ⟨by rw [← HB.out, fin1 x y N HN.out hm]; rfl, hw2⟩
  · have h0 : x % 2 = 0 := by omega
    rw [h0] at ha
    subst ha
    have hst := run_brow (P := Try.prog) (c := c) hs Try.underlying49 Try.underlying5 Try.underlying9
    go_wp2_with fail
    go_ret
    exact ⟨by rw [← HB.out, fin0 x y N HN.out hm]; rfl, hw_w0⟩
end Go.Proofs.Ytdhaedjmlddjcaa
