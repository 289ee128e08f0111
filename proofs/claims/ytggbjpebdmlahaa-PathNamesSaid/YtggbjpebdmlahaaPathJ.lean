/- The 32 letters, the digits of bytes by them. Plain lemmas, no conditions. -/
import Derived.Test.YtggbjpebdmlahaaPathI
namespace Go.Num
open Go Go.RowKit
def letters32 : ByteArray := ⟨#[48, 49, 50, 51, 52, 53, 54, 55, 56, 57, 97, 98, 99, 100, 102, 103, 104, 105, 106, 107, 108, 109, 110, 112, 113, 114, 115, 118, 119, 120, 121, 122]⟩
/-- The letter of a value below 32. -/
def let32 (x : Nat) : Nat := if x < 10 then 48 + x else if x < 14 then 87 + x else if x < 23 then 88 + x else if x < 27 then 89 + x else 91 + x
theorem letters_size : letters32.size = 32 := rfl
theorem let32_at : ∀ x : Fin 32, (letters32[x.1]'x.2).toNat = let32 x.1 := by decide
theorem let32_lt (x : Nat) (h : x < 32) : let32 x < 256 := by
  unfold let32
  repeat' split
  all_goals omega
end Go.Num
