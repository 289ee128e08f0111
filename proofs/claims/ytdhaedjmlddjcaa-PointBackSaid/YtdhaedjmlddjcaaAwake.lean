/- law8.awake: the document's example. No conditions. -/
import Derived.Test.YtdhaedjmlddjcaaHex
namespace Go.Num
open Go Go.RowKit
def strLen : Value → Nat
  | .string s => s.size
  | _ => 0
def exAt (j : Nat) : Nat := if j = 0 then 88 else 102
theorem bstr_congr {f g : Nat → Nat} {m : Nat} (h : ∀ j, j < m → f j = g j) : bstr f m = bstr g m := by
  unfold bstr btext
  congr 2
  apply List.map_congr_left
  intro j hj
  rw [h j (by simpa using hj)]
theorem bstr_push (k : Nat) (h : 0 < k) : bstr exAt k ++ ⟨#[102]⟩ = bstr exAt (k + 1) := by
  have h1 : exAt k = 102 := by unfold exAt; rw [if_neg (by omega)]
  apply ByteArray.ext
  show (bstr exAt k ++ ⟨#[102]⟩).data = (btext exAt (k + 1)).toArray
  rw [ByteArray.data_append]
  show (btext exAt k).toArray ++ #[102] = (btext exAt (k + 1)).toArray
  unfold btext
  rw [List.range_succ, List.map_append]
  simp [h1]
theorem bstr_one : (⟨#[88]⟩ : ByteArray) = bstr exAt 1 := by rfl
end Go.Num
namespace Go.Proofs.Ytdhaedjmlddjcaa
open Go.RowKit Go.Mono Go.Num
theorem ex_bytes : bstr (pbyte baseX baseY) 32 = bstr exAt 32 := bstr_congr (by decide +kernel)
theorem ex_on : onB 0 1 = true := by decide +kernel
set_option maxHeartbeats 400000 in
theorem awake_any (w : World) :
    Calls Try.prog 15 #[] w fun e w' => e = .returned (.bool true) ∧ Below w.heap.size w w' := by
  go_enter Try.func15, Try.ntmps15
  go_wp2_with fail
  rw [bstr_one]
  go_loopw [1] (fun vs wr => ∃ k : Nat, 0 < k ∧ k ≤ 32 ∧ vs = .string (bstr exAt k) ∧ Below w.heap.size w wr) (fun vs _ => 32 - strLen vs)
  case atStart => exact ⟨1, by omega, by omega, rfl, Below.refl _ _⟩
  case round =>
    obtain ⟨k, hk0, hk, rfl, hw⟩ := hrel
    have hsz := bstr_size exAt k
    by_cases hlt : k < 32
    · have hlt2 : (k : Int) < 32 := by omega
      have hp := bstr_push k hk0
      go_wp2_with fail
      exact ⟨⟨k + 1, by omega, by omega, rfl, hw⟩, by simp only [strLen, bstr_size]; omega⟩
    · obtain rfl : k = 32 := by omega
      have hb := fun w => base_any w
      have hp := fun w => pbytes_any baseX baseY w (lt_W base_lt.2)
      have hz := fun w => zero_any w
      have ho := fun w => on_any 0 1 w (by decide) (by decide)
      rw [ex_on] at ho
      rw [ex_bytes] at hp
      clear hk0 hlt hk
      generalize bstr exAt 32 = E at *
      generalize pt baseX baseY = V at *
      generalize pt 0 1 = Z at *
      go_wp2_with fail
      refine (hb _).mono ?_
      rintro e w1 ⟨rfl, h1⟩
      replace hw := below_tr' hw h1
      clear h1
      go_wp2_with fail
      refine (hp _).mono ?_
      rintro e w2 ⟨rfl, h1⟩
      replace hw := below_tr' hw h1
      clear h1
      go_wp2_with fail
      refine (hz _).mono ?_
      rintro e w3 ⟨rfl, h1⟩
      replace hw := below_tr' hw h1
      clear h1
      go_wp2_with fail
      refine (ho _).mono ?_
      rintro e w4 ⟨rfl, h1⟩
      replace hw := below_tr' hw h1
      clear h1
      go_wp2_with fail
      go_ret
      exact ⟨rfl, hw⟩
end Go.Proofs.Ytdhaedjmlddjcaa
