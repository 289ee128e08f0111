/- math/bits.Mul64: the two words of a product, for all words. No conditions. -/
import Derived.Test.YtdhaedjmlddjcaaFieldC
namespace Go.Proofs.Ytdhaedjmlddjcaa
open Go.RowKit Go.Mono Go.Num

set_option maxHeartbeats 400000 in
theorem mul64_any (x y : Nat) (w : World) (hx : x < 18446744073709551616) (hy : y < 18446744073709551616) :
    Calls Try.prog 58 #[.int .u64 x, .int .u64 y] w fun e w' => e = .returned (.tuple #[.int .u64 ((x * y / 18446744073709551616 : Nat) : Int), .int .u64 ((x * y % 18446744073709551616 : Nat) : Int)]) ∧ w = w' := by
  have h1 := mul_hi x y hx hy
  have h2 := mul_lo x y
  have H1 := Lib.hid h1
  have H2 := Lib.hid h2
  clear h1 h2 hx hy
  go_enter Try.func58, Try.ntmps58
  go_wp2
  go_ret2
  exact ⟨by rw [H1.out, H2.out]; rfl, rfl⟩
end Go.Proofs.Ytdhaedjmlddjcaa
