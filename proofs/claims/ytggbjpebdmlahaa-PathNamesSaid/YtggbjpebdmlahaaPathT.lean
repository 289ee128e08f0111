/- law13.PathNames: what each call comes to. No conditions. -/
import Derived.Test.YtggbjpebdmlahaaPathS
namespace Go.Num
open Go Go.RowKit
theorem one_eq (c : Nat) : (⟨#[97]⟩ : ByteArray) ++ bstr (fun _ => c) 1 = bstr (fun j => if j = 0 then 97 else c) 2 := by
  apply ByteArray.ext
  rw [ByteArray.data_append]
  rfl
theorem ns_push (k : Nat) : bstr (fun _ => 110) k ++ ⟨#[110]⟩ = bstr (fun _ => 110) (k + 1) := by
  apply ByteArray.ext
  apply Array.ext'
  rw [ByteArray.data_append]
  unfold bstr btext
  simp [List.range_succ]
end Go.Num
namespace Go.Proofs.Ytggbjpebdmlahaa
open Go.RowKit Go.Mono Go.Num
theorem mayName_congr (f g : Nat → Nat) (n : Nat) (h : ∀ j, j < n → f j = g j) : mayName f n = mayName g n := by
  unfold mayName allName
  by_cases h0 : n = 0
  · subst h0; rfl
  · rw [h 0 (by omega)]
    congr 1
    rw [Bool.eq_iff_iff, List.all_eq_true, List.all_eq_true]
    constructor
    · intro h1 j hj; rw [← h j (List.mem_range.1 hj)]; exact h1 j hj
    · intro h1 j hj; rw [h j (List.mem_range.1 hj)]; exact h1 j hj
theorem name_ns (k : Nat) (h : 0 < k) : mayName (fun _ => 110) k = decide ((k : Int) ≤ 211) := by
  unfold mayName
  have h1 : allName (fun _ => 110) k = true := by
    unfold allName
    rw [List.all_eq_true]
    intro j _
    rfl
  rw [h1, Bool.eq_iff_iff]
  simp
  omega
theorem name_one (c : Nat) : mayName (fun j => if j = 0 then 97 else c) 2 = okName c := by
  unfold mayName allName
  have h1 : okName 97 = true := rfl
  simp [List.range_succ, h1]
theorem name_dot : strName ⟨#[46, 97]⟩ = false := by decide +kernel
theorem name_none : strName ⟨#[]⟩ = false := by decide +kernel
set_option maxRecDepth 8000 in
set_option maxHeartbeats 2000000 in
theorem names_any (c n : Nat) (w : World) (hc : c < 256) (hn : n < 256) :
    Calls Try.prog 3 #[.int .u8 c, .int .u8 n] w fun e w' => e = .returned (.bool true) ∧ Below w.heap.size w w' := by
  have hA := fun w => awake_any w
  have eO : strName (bstr (fun j => if j = 0 then 97 else c) 2) = okName c := by
    have h := name_one c
    unfold strName
    rw [bstr_size]
    rw [← h]
    exact mayName_congr _ _ _ (fun j hj => byOf_bstr _ _ _ (by split <;> omega) hj)
  have zO : (bstr (fun j => if j = 0 then 97 else c) 2).size < 100000 := by rw [bstr_size]; decide
  go_enter Try.func3, Try.ntmps3
  go_wp2_with fail
  obtain ⟨K, hK⟩ : ∃ K, 1 + n % 215 = K := ⟨_, rfl⟩
  have hK1 : 0 < K ∧ K ≤ 215 := by omega
  have eM : strName (bstr (fun _ => 110) K) = decide ((K : Int) ≤ 211) := by
    rw [← name_ns K hK1.1]
    unfold strName
    rw [bstr_size]
    exact mayName_congr _ _ _ (fun j hj => byOf_bstr _ _ _ (by decide) hj)
  have zM : (bstr (fun _ => 110) K).size < 100000 := by rw [bstr_size]; omega
  have eK : (1 + (n : Int) % 215) = (K : Int) := by omega
  have eK2 : (1 + Int.tmod n 215) = (K : Int) := by rw [Int.tmod_eq_emod_of_nonneg (by omega)]; omega
  try rw [eK]
  try rw [eK2]
  clear eK eK2 hK
  go_loopw [5, 7] (fun vs vi wr => ∃ k : Nat, k ≤ K ∧ vs = .string (bstr (fun _ => 110) k) ∧ vi = .int .i64 k ∧ w = wr) (fun _ vi _ => K - (intOf vi).toNat)
  case atStart => exact ⟨0, by omega, rfl, rfl, rfl⟩
  case round =>
    obtain ⟨k, hk, rfl, rfl, rfl⟩ := hrel
    have hsz := bstr_size (fun _ => 110) k
    by_cases hlt : k < K
    · have hlt' : (k : Int) < (K : Int) := by omega
      have hpush := ns_push k
      go_wp2_with fail
      go_roundw
      case rel => exact ⟨k + 1, by omega, rfl, rfl, trivial⟩
      case measure => simp [intOf]; omega
    · obtain rfl : k = K := by omega
      have hst := run_bstr (P := Try.prog) (c := 1) (f := fun _ => c) (m := 1) (w := w.alloc (.cells #[.int .u8 c] 5)) (b := w.heap.size) (by show (w.heap.push _)[w.heap.size]? = _; exact Array.getElem?_push_size) Try.underlying22 Try.underlying5 Try.underlying9
      go_upto_region 8 with (fail)
      have ho := one_eq c
      rw [ho]
      clear hst
      generalize bstr (fun _ => 110) k = S1 at *
      generalize bstr (fun j => if j = 0 then 97 else c) 2 = S2 at *
      have hb0 : ∀ v, Below w.heap.size w (w.alloc (Obj.cells #[v] 5)) := fun v => (Below.refl _ _).alloc (Nat.le_refl _) _
      go_upto_region 9 with (fail)
      all_goals
        go_wp2_with (first
          | (go_at_call 8; refine (name_any _ _ (by first | exact zM | exact zO | exact (by decide))).mono ?_; rintro e w1 ⟨rfl, hb1⟩; (first | have hb9 := below_tr' hb9 hb1 | have hb9 := below_tr' (hb0 _) hb1); clear hb1; simp only [eM, eO, name_dot, name_none])
          | (go_at_call 9; refine (hA _).mono ?_; rintro e w5 ⟨rfl, hb5⟩; have hb5 := below_tr' hb9 hb5))
        all_goals first
          | (go_ret; exact ⟨rfl, hb5⟩)
          | (refine absurd ?_ ‹¬ okName c = _›; rw [Bool.eq_iff_iff]; simp only [okName, Bool.or_eq_true, Bool.and_eq_true, decide_eq_true_eq, beq_iff_eq, iff_true]; omega)
          | (have hno := ‹okName c = true›; simp only [okName, Bool.or_eq_true, Bool.and_eq_true, decide_eq_true_eq] at hno; omega)
    end Go.Proofs.Ytggbjpebdmlahaa
