/- codec.Base32: the text of bytes by 32 letters. No conditions beyond the size. -/
import Derived.Test.YtggbjpebdmlahaaPathL
import Derived.Test.YtggbjpebdmlahaaPathN
import Derived.Deep.Cut
namespace Go.Num
open Go Go.RowKit
theorem cell_one_new' (w : World) (a : Value) (t : TypeId) : ∀ j u, [a][j]? = some u → (w.alloc (.cells #[a] t)).cell? ((⟨w.heap.size, 0, none⟩ : Addr).add j) = some u := by
  intro j u hj
  match j, hj with
  | 0, hj => simp at hj; subst hj; simp [Addr.add]
  | (j + 1), hj => simp at hj
theorem bl_snoc (f : Nat → Nat) (t : Nat) : bl f t ++ [.int .u8 (f t)] = bl f (t + 1) := by
  rw [← bl_add f t 1]
  rfl
/-- An owned row of bytes, as its block holds it. -/
theorem own_arow {w : World} {B e n : Nat} {v : Value} {f : Nat → Nat} (h : w.ownsRow B e 1 v n (bl f n)) (hn : 0 < n) : ∃ g c R, v = .slice (some ⟨g, 0, none⟩) n c ∧ B ≤ g ∧ w.heap[g]? = some (.cells (arow f n R) e (0, 0)) := by
  rcases h.2 with ⟨_, h0⟩ | ⟨g, cap, cur, rfl, h2, h3, h4, h5, h6, h7⟩
  · omega
  · refine ⟨g, cap, (cur.toList.drop n).toArray, rfl, h2, ?_⟩
    rw [h3]
    have e1 : cur = arow f n (cur.toList.drop n).toArray := by
      unfold arow bcells
      apply Array.ext'
      have h7' : cur.toList.take n = bl f n := by simpa using h7
      rw [Array.toList_append]
      show cur.toList = bl f n ++ cur.toList.drop n
      rw [← h7', List.take_append_drop]
    rw [← e1]
/-- The text by 32 letters. -/
def b32S (f : Nat → Nat) (m j : Nat) : Nat := b32 f m (len32 m - 1 - j)
end Go.Num
namespace Go.Proofs.Ytggbjpebdmlahaa
open Go.RowKit Go.Mono Go.Num
set_option maxRecDepth 8000 in
set_option maxHeartbeats 1000000 in
theorem base32_any (f : Nat → Nat) (m : Nat) (w : World) (hm0 : 0 < m) (hm : m < 1000) (hf : ∀ j, f j < 256) :
    Calls Try.prog 28 #[.string (bstr f m)] w fun e w' => e = .returned (.string (bstr (b32S f m) (len32 m))) ∧ Below w.heap.size w w' := by
  obtain ⟨i0, hi0, hz0, hz1, hz2⟩ := info_parts info_byte
  go_enter Try.func28, Try.ntmps28
  have hsz := bstr_size f m
  go_wp2_with fail
  obtain ⟨c, s, z, w0, hz, hs32, hcv, hs0, hb0⟩ := run_bytes_new (P := Try.prog) w 9 22 5 m f hf Try.underlying9 Try.underlying22 Try.underlying5
  rw [hcv]
  clear hcv
  have hl0 := Go.Mono.lt_of_some hs0
  simp only [Result.andThen_ok, Oper.upon]
  go_wp2_with fail
  go_loopw [3, 4, 5, 11] (fun vb vn vh vi wr => ∃ k t h X : Nat, k ≤ m ∧ 8 * k = 5 * t + h ∧ h < 5 ∧ Hid (X = leN f k / 32 ^ t) ∧ vi = .int .i64 k ∧ vn = .int .i64 X ∧ vh = .int .i64 h ∧ wr.ownsRow w0.heap.size 5 1 vb t (bl (b32 f m) t) ∧ Below w0.heap.size w0 wr) (fun _ _ _ vi _ => m - (intOf vi).toNat)
  case atStart => exact ⟨0, 0, 0, 0, by omega, by omega, by omega, by simp [Hid, leN], rfl, rfl, rfl, World.ownsRow_nil _ _ _ _, Below.refl _ _⟩
  case round =>
    obtain ⟨k, t, h, X, hk, he, hh, hX, rfl, rfl, rfl, hown, hw⟩ := hrel
    by_cases hlt : k < m
    · have hs := keep hw hs0
      have cs := brow_at hs k hlt
      have hlt' : (k : Int) < (m : Int) := by omega
      have hV := hf k
      have hpt := leN_part f hf k t h he
      have hst := leN_step f k t h he
      rw [← hX.out] at hpt hst
      have hor := or_join X (f k) h hpt (by omega) hV
      have hsh : wrap64 ((f k : Int) * 2 ^ h) = ((f k * 2 ^ h : Nat) : Int) := by
        have h1 : (2 : Nat) ^ h ≤ 2 ^ 4 := Nat.pow_le_pow_right (by decide) (by omega)
        have h2 : f k * 2 ^ h ≤ 255 * 2 ^ 4 := Nat.mul_le_mul (by omega) h1
        rw [show ((f k : Int) * 2 ^ h) = ((f k * 2 ^ h : Nat) : Int) by rw [Int.natCast_mul, Int.natCast_pow]; rfl]
        unfold wrap64
        omega
      have hmin : min h 64 = h := by omega
      obtain ⟨Z, hZ⟩ : ∃ Z, f k * 2 ^ h = Z := ⟨_, rfl⟩
      obtain ⟨Y, hY⟩ : ∃ Y, X + Z = Y := ⟨_, rfl⟩
      rw [hZ] at hor hsh hst
      rw [hY] at hor hst
      have HY : Hid (Y = leN f (k + 1) / 32 ^ t) := hst.symm
      clear hst hZ hY hX hpt
      generalize f k = V at *
      go_wp2_with fail
      clear hor hsh hmin cs hV
      go_loopw [3, 4, 5] (fun vb vn vh wr => ∃ t h X : Nat, 8 * (k + 1) = 5 * t + h ∧ h < 13 ∧ Hid (X = leN f (k + 1) / 32 ^ t) ∧ vn = .int .i64 X ∧ vh = .int .i64 h ∧ wr.ownsRow w0.heap.size 5 1 vb t (bl (b32 f m) t) ∧ Below w0.heap.size w0 wr) (fun _ _ vh _ => (intOf vh).toNat)
      case atStart => exact ⟨t, h + 8, Y, by omega, by omega, HY, rfl, rfl, hown, hw⟩
      case round =>
        clear hown hw HY he hh
        obtain ⟨t, h, X, he, hh, hX, rfl, rfl, hown, hw⟩ := hrel
        by_cases h5 : 5 ≤ h
        · have h5' : (5 : Int) ≤ (h : Int) := by omega
          have hpt := leN_part f hf (k + 1) t h he
          rw [← hX.out] at hpt
          have h13 : (2 : Nat) ^ h ≤ 2 ^ 12 := Nat.pow_le_pow_right (by decide) (by omega)
          have hand := and_31 X (by omega)
          have hdig := digN_part f m (k + 1) t (by omega) (by omega)
          rw [← hX.out] at hdig
          obtain ⟨D, hD⟩ : ∃ D, X % 32 = D := ⟨_, rfl⟩
          have hlt32 : D < 32 := by omega
          have hle := let32_at ⟨D, hlt32⟩
          rw [hD] at hand hdig
          have hb : b32 f m t = let32 D := by unfold b32; rw [← hdig]
          have hsn := bl_snoc (b32 f m) t
          rw [hb] at hsn
          have hdiv : (X : Int) / 32 = ((X / 32 : Nat) : Int) := by omega
          have hX2 : Hid (X / 32 = leN f (k + 1) / 32 ^ (t + 1)) := by
            show _ = _
            rw [hX.out, Nat.div_div_eq_div_mul, Nat.pow_succ]
          simp only at hle
          unfold letters32 at hle
          generalize let32 D = DX at *
          obtain ⟨X3, hX3⟩ : ∃ X3, X / 32 = X3 := ⟨_, rfl⟩
          rw [hX3] at hdiv hX2
          clear hD hX3
          have hD2 : (D : Int) < 32 := by omega
          have hws := hw.size
          clear hb hdig hX hpt h13
          go_upto_region 11 with (first
            | (at_builtin; refine wpList_append_own _ rfl _ _ 22 rfl w0.heap.size 5 i0 (.int .u8 0) 1 1 Try.underlying22 hi0 hz0 hz1 hz2 rfl (by decide) _ _ _ rfl (hown.alloc _) ⟨wr.heap.size, 0, none⟩ 1 1 [.int .u8 DX] rfl rfl (cell_one_new' _ _ _) (fun x hx => by simp at hx; subst hx; rfl) (by unfold maxLen; omega) (by omega) (by simp; omega) ?_; intro v' w3 hown' hgrow3 hnil3
               have hbw3 : Below w0.heap.size w0 w3 := Below.grown (hw.alloc (by omega) _) hgrow3 (by simp; omega) (fun j hj => by have := (hown.lt _ hj).1; omega)
               have XX : Aside (w3.ownsRow w0.heap.size 5 1 v' (t + 1) (bl (b32 f m) (t + 1)) ∧ Below w0.heap.size w0 w3) := ⟨hsn ▸ hown', hbw3⟩
               clear hown' hgrow3 hnil3 hbw3))
          go_wp2_with fail
          go_roundw
          case rel => exact ⟨t + 1, h - 5, X3, by omega, by omega, hX2, by first | trivial | rfl, by congr 1; omega, XX.out.1, XX.out.2⟩
          case measure => simp [intOf]; omega
        · have h5' : ¬ (5 : Int) ≤ (h : Int) := by omega
          go_wp2_with fail
          go_roundw
          case rel => exact ⟨k + 1, t, h, X, by omega, by omega, by omega, hX, by go_num, by first | trivial | rfl, by first | trivial | rfl, hown, hw⟩
          case measure => simp [intOf]; omega
    · obtain rfl : k = m := by omega
      clear hlt hk
      have hgo : ∀ (wr2 : World) (vb : Value), wr2.ownsRow w0.heap.size 5 1 vb (len32 k) (bl (b32 f k) (len32 k)) → Below w0.heap.size w0 wr2 → ∃ g c R, vb = .slice (some ⟨g, 0, none⟩) (len32 k) c ∧ w0.heap.size ≤ g ∧ wr2.heap[g]? = some (.cells (arow (b32 f k) (len32 k) R) 5 (0, 0)) := fun wr2 vb ho _ => own_arow ho (by unfold len32; omega)
      have hL : len32 k < 2000 := by unfold len32; omega
      by_cases h0 : h = 0
      · subst h0
        have hLt : t = len32 k := by unfold len32; omega
        subst hLt
        obtain ⟨g, c2, R, rfl, hg1, hg2⟩ := hgo wr _ hown hw
        go_wp2_with (go_at_call 50; refine (reverse_row (b32 f k) (len32 k) g c2 R (0, 0) _ (by omega) (fun w' cs o h' _ => frozen_of h' o) hg2).mono ?_; rintro e w5 ⟨rfl, hb5, hg5⟩; have hst := run_arow (P := Try.prog) (c := c2) hg5 Try.underlying22 Try.underlying5 Try.underlying9)
        go_ret
        exact ⟨rfl, (below_tr' hb0 hw).trans (hb5.mono (Nat.le_trans hb0.size hg1))⟩
      · have h0' : 0 < (h : Int) := by omega
        have hLt : t + 1 = len32 k := by unfold len32; omega
        have hpt := leN_part f hf k t h he
        rw [← hX.out] at hpt
        have h13 : (2 : Nat) ^ h ≤ 2 ^ 12 := Nat.pow_le_pow_right (by decide) (by omega)
        have hand := and_31 X (by omega)
        have hdig : X % 32 = digN f k t := by rw [hX.out]; rfl
        obtain ⟨D, hD⟩ : ∃ D, X % 32 = D := ⟨_, rfl⟩
        have hlt32 : D < 32 := by omega
        have hle := let32_at ⟨D, hlt32⟩
        rw [hD] at hand hdig
        have hb : b32 f k t = let32 D := by unfold b32; rw [← hdig]
        have hsn := bl_snoc (b32 f k) t
        rw [hb] at hsn
        simp only at hle
        unfold letters32 at hle
        generalize let32 D = DX at *
        clear hD hb hdig hX hpt h13
        have hD2 : (D : Int) < 32 := by omega
        have hws := hw.size
        go_wp2_with (first
          | (at_builtin; refine wpList_append_own _ rfl _ _ 22 rfl w0.heap.size 5 i0 (.int .u8 0) 1 1 Try.underlying22 hi0 hz0 hz1 hz2 rfl (by decide) _ _ _ rfl (hown.alloc _) ⟨wr.heap.size, 0, none⟩ 1 1 [.int .u8 DX] rfl rfl (cell_one_new' _ _ _) (fun x hx => by simp at hx; subst hx; rfl) (by unfold maxLen; omega) (by omega) (by simp; omega) ?_; intro v' w3 hown' hgrow3 hnil3
             have hbw3 : Below w0.heap.size w0 w3 := Below.grown (hw.alloc (by omega) _) hgrow3 (by simp; omega) (fun j hj => by have := (hown.lt _ hj).1; omega)
             rw [hsn, hLt] at hown'
             obtain ⟨g, c2, R, rfl, hg1, hg2⟩ := hgo w3 v' hown' hbw3
             clear hown' hgrow3 hnil3)
          | (go_at_call 50; refine (reverse_row (b32 f k) (len32 k) g c2 R (0, 0) _ (by omega) (fun w' cs o h' _ => frozen_of h' o) hg2).mono ?_; rintro e w5 ⟨rfl, hb5, hg5⟩; have hst := run_arow (P := Try.prog) (c := c2) hg5 Try.underlying22 Try.underlying5 Try.underlying9))
        go_ret
        exact ⟨rfl, (below_tr' hb0 hbw3).trans (hb5.mono (Nat.le_trans hb0.size hg1))⟩
end Go.Proofs.Ytggbjpebdmlahaa
