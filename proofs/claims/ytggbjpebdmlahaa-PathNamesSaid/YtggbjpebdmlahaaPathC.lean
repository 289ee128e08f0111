/- codec.Hex: the text of bytes, two digits each. No conditions beyond the size. -/
import Derived.Test.YtggbjpebdmlahaaPathB
import Derived.OwnWalk
import Derived.Deep.LoopGhost
namespace Go.Num
open Go Go.RowKit
def hexDig (x : Nat) : Nat := if x < 10 then 48 + x else 87 + x
def hexAt (f : Nat → Nat) (j : Nat) : Nat := if j % 2 = 0 then hexDig (f (j / 2) / 16) else hexDig (f (j / 2) % 16)
def hexCells (f : Nat → Nat) (m : Nat) : List Value := (List.range m).map fun j => .int .u8 (hexAt f j)
def digits : ByteArray := ⟨#[48, 49, 50, 51, 52, 53, 54, 55, 56, 57, 97, 98, 99, 100, 101, 102]⟩
theorem digits_at (x : Nat) (h : x < digits.size) : (digits[x]'h).toNat = hexDig x := by
  have h1 : ∀ x : Fin 16, (digits[x.1]'x.2).toNat = hexDig x.1 := by decide
  exact h1 ⟨x, h⟩
theorem bstr_at (f : Nat → Nat) (n k : Nat) (hf : f k < 256) (h : k < (bstr f n).size) : ((bstr f n)[k]'h).toNat = f k := by
  show ((btext f n).toArray[k]'h).toNat = f k
  simp [btext]
  omega
theorem and15 (v : Nat) (h : v < 256) : bits .and .u8 (v : Int) 15 = ((v % 16 : Nat) : Int) := by
  have := u8_and_nat v 15 h (by decide)
  rw [show ((15 : Nat) : Int) = 15 from rfl] at this
  rw [this]; congr 1; exact Nat.and_two_pow_sub_one_eq_mod v 4
theorem hexCells_two (f : Nat → Nat) (k : Nat) : hexCells f (2 * k) ++ [.int .u8 (hexDig (f k / 16)), .int .u8 (hexDig (f k % 16))] = hexCells f (2 * (k + 1)) := by
  unfold hexCells
  rw [show 2 * (k + 1) = 2 * k + 1 + 1 by omega, List.range_succ, List.range_succ]
  simp only [List.map_append, List.map_cons, List.map_nil, List.append_assoc, List.cons_append, List.nil_append]
  congr 3
  · unfold hexAt
    rw [if_pos (by omega), show 2 * k / 2 = k by omega]
  · congr 1
    unfold hexAt
    rw [if_neg (by omega), show (2 * k + 1) / 2 = k by omega]
theorem ownsRow_below {w w' : World} {base e size n : Nat} {v : Value} {xs : List Value} (h : w.ownsRow base e size v n xs) (hb : Below w.heap.size w w') : w'.ownsRow base e size v n xs :=
  ⟨h.1, h.2.imp id fun ⟨g, cap, cur, h1, h2, h3, h4⟩ => ⟨g, cap, cur, h1, h2, keep hb h3, h4⟩⟩
theorem cell_two_new (w : World) (a b : Value) (t : TypeId) : ∀ j u, [a, b][j]? = some u → (w.alloc (.cells #[a, b] t)).cell? ((⟨w.heap.size, 0, none⟩ : Addr).add j) = some u := by
  intro j u hj
  match j, hj with
  | 0, hj => simp at hj; subst hj; simp [Addr.add]
  | 1, hj => simp at hj; subst hj; simp [Addr.add]
  | (j + 2), hj => simp at hj
theorem hexDig_lt (x : Nat) (h : x < 16) : hexDig x < 256 := by
  unfold hexDig
  split <;> omega
theorem hexAt_lt (f : Nat → Nat) (hf : ∀ j, f j < 256) (j : Nat) : hexAt f j < 256 := by
  unfold hexAt
  have := hf (j / 2)
  split
  · exact hexDig_lt _ (by omega)
  · exact hexDig_lt _ (by omega)
theorem run_owned {P : Program} {w : World} {base n src e dst m : Nat} {v : Value} {f : Nat → Nat} (hm : m = 2 * n) (h : w.ownsRow base e 1 v m (hexCells f m)) (hn : 0 < n) (hs : P.underlying src = some (.slice e)) (he : P.underlying e = some (.int .u8)) (hd : P.underlying dst = some .string) :
    (convert src dst v).run P w = .ok (.string (bstr (hexAt f) m)) w := by
  rcases h.2 with ⟨_, h0⟩ | ⟨g, cap, cur, rfl, h2, h3, h4⟩
  · omega
  · rw [run_convert_bytes_arg w src e hs he g 0 m cap ((List.range m).map fun j => (hexAt f j : Int)) (by simp) (fun i hi => by
      have := h.cells (g := g) rfl i (.int .u8 (hexAt f i)) (by simp [hexCells, hi])
      have e0 : (⟨g, 0, none⟩ : Addr).add i = ⟨g, 0 + i, none⟩ := by
        unfold Addr.add
        split
        · rename_i hz; subst hz; rfl
        · rfl
      rw [← e0, this]
      simp [List.getD, hi]) dst hd]
    congr 2
    unfold strOfNums bstr btext
    congr 1
    simp
end Go.Num
namespace Go.Proofs.Ytggbjpebdmlahaa
open Go.RowKit Go.Mono Go.Num
theorem info_byte : (Try.prog.info? 5).map (fun i => (i.zero, i.size, i.bytes)) = some (some (.int .u8 0), 1, 1) := by kernel_rfl
set_option maxRecDepth 8000 in
set_option maxHeartbeats 400000 in
theorem hex_any (f : Nat → Nat) (n : Nat) (w : World) (hn0 : 0 < n) (hn : n < 1000) (hf : ∀ j, f j < 256) :
    Calls Try.prog 27 #[.string (bstr f n)] w fun e w' => e = .returned (.string (bstr (hexAt f) (2 * n))) ∧ Below w.heap.size w w' := by
  obtain ⟨i0, hi0, hz0, hz1, hz2⟩ := info_parts info_byte
  go_enter Try.func27, Try.ntmps27
  have hsz := bstr_size f n
  go_wp2_with fail
  obtain ⟨c, s, z, w0, hz, hs32, hcv, hs0, hb0⟩ := run_bytes_new (P := Try.prog) w 9 22 5 n f hf Try.underlying9 Try.underlying22 Try.underlying5
  rw [hcv]
  clear hcv
  have hl0 := Go.Mono.lt_of_some hs0
  simp only [Result.andThen_ok, Oper.upon]
  go_wp2_with fail
  go_loopw [3, 9] (fun vb vi wr => ∃ k : Nat, k ≤ n ∧ vi = .int .i64 k ∧ wr.ownsRow w0.heap.size 5 1 vb (2 * k) (hexCells f (2 * k)) ∧ Below w0.heap.size w0 wr) (fun _ vi _ => n - (intOf vi).toNat)
  case atStart => exact ⟨0, by omega, rfl, World.ownsRow_nil _ _ _ _, Below.refl _ _⟩
  case round =>
    obtain ⟨k, hk, rfl, hown, hw⟩ := hrel
    by_cases hlt : k < n
    · have hs := keep hw hs0
      have cs := brow_at hs k hlt
      have hand := and15 (f k) (hf k)
      have hdiv : ((f k : Nat) : Int) / 16 = ((f k / 16 : Nat) : Int) := by omega
      have hX : f k / 16 < 16 := by have := hf k; omega
      have hY : f k % 16 < 16 := by omega
      have htwo := hexCells_two f k
      generalize f k / 16 = X at *
      generalize f k % 16 = Y at *
      generalize f k = V at *
      have hdX := digits_at X hX
      have hdY := digits_at Y hY
      unfold digits at hdX hdY
      have hX2 : (X : Int) < 16 := by omega
      have hY2 : (Y : Int) < 16 := by omega
      generalize hexDig X = DX at *
      generalize hexDig Y = DY at *
      have hlt' : (k : Int) < (n : Int) := by omega
      go_wp2_with fail
      refine wp_region_mono 7 7 [0] (fun _ => default) (by kernel_rfl) (by kernel_rfl) (fun _ _ _ _ _ h => h) ?_
      simp only [List.take_succ_cons, List.take_zero, List.drop_succ_cons, List.drop_zero]
      repeat
        (apply head_pure rfl rfl rfl
         case h => (intro w1; go_simp; rfl)
         simp only [Act.put, List.setIfInBounds_toArray, List.set_cons_zero, List.set_cons_succ])
      refine head_nil ?_
      intro w2 hC _
      replace hw := below_tr hw hC
      have hown2 := ownsRow_below (w := wr.drew) hown hC
      have hws := hw.size
      have hlt2 := hown2.lt
      clear hC hown
      go_wp2_with (first
        | (at_builtin; refine wpList_append_own _ rfl _ _ 22 rfl w0.heap.size 5 i0 (.int .u8 0) 1 1 Try.underlying22 hi0 hz0 hz1 hz2 rfl (by decide) _ _ _ rfl (hown2.alloc _) ⟨w2.heap.size, 0, none⟩ 2 2 [.int .u8 DX, .int .u8 DY] rfl rfl (cell_two_new _ _ _ _) (fun x hx => by simp at hx; rcases hx with rfl | rfl <;> rfl) (by unfold maxLen; omega) (by omega) (by simp; omega) ?_; intro v' w3 hown' hgrow3 hnil3
           have hbw3 : Below w0.heap.size w0 w3 := Below.grown (hw.alloc (by omega) _) hgrow3 (by simp; omega) (fun j hj => by have := (hown2.lt _ hj).1; omega)
           have X : Aside (w3.ownsRow w0.heap.size 5 1 v' (2 * k + 2) (hexCells f (2 * (k + 1))) ∧ Below w0.heap.size w0 w3) := ⟨htwo ▸ hown', hbw3⟩
           clear hown' hgrow3 hnil3 hbw3))
      go_roundw
      case rel => exact ⟨k + 1, by omega, by go_num, X.out.1, X.out.2⟩
      case measure => simp [intOf]; omega
    · obtain rfl : k = n := by omega
      have hst := run_owned (P := Try.prog) rfl hown hn0 Try.underlying22 Try.underlying5 Try.underlying9
      go_wp2_with fail
      go_ret
      exact ⟨rfl, below_tr' hb0 hw⟩
end Go.Proofs.Ytggbjpebdmlahaa
