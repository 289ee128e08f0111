/- path.MayName: what each call comes to. No conditions beyond the sizes. -/
import Derived.Test.YtggbjpebdmlahaaPathF
namespace Go.Proofs.Ytggbjpebdmlahaa
open Go.RowKit Go.Mono Go.Num
/-- A text that may be a name. -/
def mayName (f : Nat → Nat) (n : Nat) : Bool := n != 0 && n ≤ 211 && f 0 != 46 && allName f n
set_option maxRecDepth 8000 in
set_option maxHeartbeats 400000 in
theorem mayName_any (f : Nat → Nat) (n : Nat) (w : World) (hn : n < 100000) (hf : ∀ j, f j < 256) :
    Calls Try.prog 8 #[.string (bstr f n)] w fun e w' => e = .returned (.bool (mayName f n)) ∧ Below w.heap.size w w' := by
  have hsz := bstr_size f n
  by_cases h0 : n = 0
  · subst h0
    have he : bstr f 0 = ⟨#[]⟩ := rfl
    rw [he]
    go_enter Try.func8, Try.ntmps8
    go_wp2_with fail
    go_ret
    exact ⟨rfl, Below.refl _ _⟩
  · have hne : ¬ (bstr f n).toList = [] := by
      intro h
      rw [Lib.toList_data] at h
      have : (bstr f n).data.toList.length = n := hsz
      rw [h] at this
      exact h0 this.symm
    have hem : (bstr f n).toList.isEmpty = false := by
      rw [Bool.eq_false_iff]
      intro h
      exact hne (List.isEmpty_iff.1 h)
    obtain ⟨c, s, z, w2, hz, hs32, hcv, hs, hb⟩ := run_bytes_new (P := Try.prog) w 9 22 5 n f hf Try.underlying9 Try.underlying22 Try.underlying5
    have hat := bstr_at f n 0 (hf 0) (by omega)
    have hev := every_any f n w.heap.size c (c - n) z w2 hn hf hs
    go_enter Try.func8, Try.ntmps8
    go_wp2_with (go_at_call 19; refine hev.mono ?_; rintro e w' ⟨rfl, rfl⟩)
    all_goals
      go_ret
      refine ⟨?_, by first | exact hb | exact Below.refl _ _⟩
      show Ending.returned (Value.bool _) = Ending.returned (Value.bool _)
      congr 2
      unfold mayName
      try simp only [hem]
      rw [Bool.eq_iff_iff]
      simp only [Bool.and_eq_true, bne_iff_ne, decide_eq_true_eq, ne_eq]
      first
      | omega
      | (generalize allName f n = A at *; cases A <;> simp <;> omega)
end Go.Proofs.Ytggbjpebdmlahaa
