/- strings.Cut at one byte, path.isName, every, MayName: what each call comes to. No conditions beyond the sizes. -/
import Derived.Test.YtggbjpebdmlahaaPathC
import Derived.Test.YtggbjpebdmlahaaPathD
namespace Go.Num
open Go Go.RowKit
/-- A byte that may be in a name. -/
def okName (c : Nat) : Bool := (97 ≤ c && c ≤ 122) || (65 ≤ c && c ≤ 90) || (48 ≤ c && c ≤ 57) || c = 43 || c = 45 || c = 46 || c = 95 || c = 63 || c = 61
def allName (f : Nat → Nat) (n : Nat) : Bool := (List.range n).all fun j => okName (f j)
theorem signs_at : ∀ c : Fin 256, (0 ≤ Lib.indexByte [43, 45, 46, 95, 63, 61] (UInt8.ofNat c.1)) ↔ (c.1 = 43 ∨ c.1 = 45 ∨ c.1 = 46 ∨ c.1 = 95 ∨ c.1 = 63 ∨ c.1 = 61) := by decide +kernel
end Go.Num
namespace Go.Proofs.Ytggbjpebdmlahaa
open Go.RowKit Go.Mono Go.Num
set_option maxRecDepth 8000 in
set_option maxHeartbeats 400000 in
theorem isName_any (c : Nat) (w : World) (hc : c < 256) :
    Calls Try.prog 20 #[.int .u8 c] w fun e w' => e = .returned (.bool (okName c)) ∧ w' = w := by
  have hs := signs_at ⟨c, hc⟩
  simp only at hs
  go_enter Try.func20, Try.ntmps20
  go_wp2_with (go_at_call 39; refine (indexByte_any _ _ _).mono ?_; rintro e w' ⟨rfl, rfl⟩)
  all_goals
    go_ret
    refine ⟨?_, rfl⟩
    show Ending.returned (Value.bool _) = Ending.returned (Value.bool _)
    congr 2
    rw [Bool.eq_iff_iff]
    simp only [okName, Bool.or_eq_true, Bool.and_eq_true, decide_eq_true_eq]
    first
    | omega
    | exact iff_of_true trivial (by omega)
    | (simp only [Nat.toUInt8, Int.toNat_natCast] at *; omega)
    | (simp only [Nat.toUInt8, Int.toNat_natCast]; generalize Lib.indexByte _ _ = I at *; omega)
end Go.Proofs.Ytggbjpebdmlahaa
