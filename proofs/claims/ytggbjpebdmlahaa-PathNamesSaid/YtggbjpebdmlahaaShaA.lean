/- sha.ror: what each call comes to. No conditions beyond the count. -/
import Derived.Test.YtggbjpebdmlahaaChecked
import Derived.Test.YtggbjpebdmlahaaMonoB
import Derived.Test.YtggbjpebdmlahaaSeq
import Derived.Test.YtggbjpebdmlahaaWords
import Derived.Test.YtggbjpebdmlahaaBy
import Derived.WalkKit
import Derived.WalkSpells
import Derived.IntWalk
namespace Go.Num
open Go Go.RowKit
theorem rot_count (n : Nat) (hn : n < 32) (h0 : 0 < n) : bits .and .u64 (IntKind.u64.wrap (-(n : Int))) 31 = ((32 - n : Nat) : Int) := by
  have h1 : ∀ n : Fin 32, 0 < n.1 → bits .and .u64 (IntKind.u64.wrap (-(n.1 : Int))) 31 = ((32 - n.1 : Nat) : Int) := by decide +kernel
  exact h1 ⟨n, hn⟩ h0
/-- To the right, by n. -/
def rotB (x : BitVec 32) (n : Nat) : BitVec 32 := (x >>> n) ||| (x <<< (32 - n))
end Go.Num
namespace Go.Proofs.Ytggbjpebdmlahaa
open Go.RowKit Go.Mono Go.Num
set_option maxHeartbeats 400000 in
theorem rotl_any (x : BitVec 32) (n : Nat) (w : World) (hn : n < 32) (h0 : 0 < n) :
    Calls Try.prog 87 #[.int .u32 (nv x : Int), .int .i64 (-n)] w fun e w' => e = .returned (.int .u32 (nv (rotB x n) : Int)) ∧ w' = w := by
  have hc := rot_count n hn h0
  have h1 : min (32 - n) 32 = 32 - n := by omega
  have h2 : IntKind.u64.wrap (32 - ((32 - n : Nat) : Int)) = (n : Int) := by simp [IntKind.wrap, IntKind.bits, IntKind.signed]; omega
  have h3 : min n 32 = n := by omega
  have hv : rotB x n = (x >>> n) ||| (x <<< (32 - n)) := rfl
  generalize 32 - n = m at *
  go_enter Try.func87, Try.ntmps87
  go_wp2_with fail
  go_ret
  refine ⟨?_, rfl⟩
  rw [bv_shl, bv_shr, bv_or, hv, BitVec.or_comm]
  rfl
set_option maxHeartbeats 400000 in
theorem ror_any (x : BitVec 32) (n : Nat) (w : World) (hn : n < 32) (h0 : 0 < n) :
    Calls Try.prog 80 #[.int .u32 (nv x : Int), .int .i64 n] w fun e w' => e = .returned (.int .u32 (nv (rotB x n) : Int)) ∧ w' = w := by
  have h := rotl_any x n w hn h0
  have h2 : wrap64 (-(n : Int)) = -(n : Int) := by unfold wrap64; omega
  go_enter Try.func80, Try.ntmps80
  go_wp2_with (go_at_call 87; refine h.mono ?_; rintro e w' ⟨rfl, rfl⟩)
  go_ret
  exact ⟨rfl, rfl⟩
theorem ror_z (x : BitVec 32) (z : Int) (w : World) (h0 : 0 < z) (hn : z < 32) :
    Calls Try.prog 80 #[.int .u32 (nv x : Int), .int .i64 z] w fun e w' => e = .returned (.int .u32 (nv (rotB x z.toNat) : Int)) ∧ w' = w := by
  obtain ⟨n, rfl⟩ := Int.eq_ofNat_of_zero_le (Int.le_of_lt h0)
  exact ror_any x n w (by omega) (by omega)
theorem ror_b (x : BitVec 32) (z : Int) (w : World) (h0 : 0 < z) (hn : z < 32) :
    Calls Try.prog 80 #[.int .u32 (nv x : Int), .int .i64 z] w fun e w' => e = .returned (.int .u32 (nv (rotB x z.toNat) : Int)) ∧ Below w.heap.size w w' :=
  (ror_z x z w h0 hn).mono fun e w' h => ⟨h.1, h.2 ▸ Below.refl _ _⟩
end Go.Proofs.Ytggbjpebdmlahaa
