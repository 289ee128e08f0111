/- strings.Cut at one byte: what each call comes to. No conditions beyond the size. -/
import Derived.Test.YtggbjpebdmlahaaPathD
import Derived.Test.YtggbjpebdmlahaaBy
import Derived.WalkKit
import Derived.OwnWalk
import Derived.Lib.IndexBytes
import Derived.Lib.IndexLaws
namespace Go.Num
open Go Go.RowKit
theorem index_cases (s : ByteArray) (c : UInt8) : Lib.indexByte s.data.toList c = -1 ∨ ∃ k : Nat, Lib.indexByte s.data.toList c = k ∧ k < s.size := by
  have h := Lib.indexByte_ge s.data.toList c
  by_cases h1 : Lib.indexByte s.data.toList c = -1
  · exact .inl h1
  · obtain ⟨k, hk⟩ : ∃ k : Nat, Lib.indexByte s.data.toList c = k := ⟨(Lib.indexByte s.data.toList c).toNat, by omega⟩
    refine .inr ⟨k, hk, ?_⟩
    have h2 := (Lib.indexByte_some hk).1
    have h3 := (List.getElem?_eq_some_iff.1 h2).1
    exact h3
/-- What Cut gives at a byte. -/
def cutV (s : ByteArray) (i : Int) : Value := if 0 ≤ i then .tuple #[.string (s.extract 0 i.toNat), .string (s.extract (i.toNat + 1) s.size), .bool true] else .tuple #[.string s, .string ⟨#[]⟩, .bool false]
end Go.Num
namespace Go.Proofs.Ytggbjpebdmlahaa
open Go.RowKit Go.Mono Go.Num
set_option maxRecDepth 8000 in
set_option maxHeartbeats 1000000 in
theorem lite_cut (s : ByteArray) (c : UInt8) (w : World) (hn : s.size < 100000) :
    Calls Try.prog 42 #[.string s, .string ⟨#[c]⟩] w fun e w' => e = .returned (cutV s (Lib.indexByte s.data.toList c)) ∧ Below w.heap.size w w' := by
  have hix := lite_index_one s c w
  rcases index_cases s c with hi | ⟨k, hi, hk⟩
  · rw [hi] at hix ⊢
    go_enter Try.func42, Try.ntmps42
    go_wp2_with (go_at_call 60; refine hix.mono ?_; rintro e w' ⟨rfl, rfl⟩)
    go_ret3
    exact ⟨rfl, Below.refl _ _⟩
  · rw [hi] at hix ⊢
    have hk1 : (k : Int) < (s.size : Int) := by omega
    have hk2 : (k : Int) ≤ (s.size : Int) := by omega
    have hk3 : (k : Int) + 1 ≤ (s.size : Int) := by omega
    go_enter Try.func42, Try.ntmps42
    go_wp2_with (go_at_call 60; refine hix.mono ?_; rintro e w' ⟨rfl, rfl⟩)
    go_region
    go_wp2_with fail
    go_ret3
    refine ⟨?_, (Below.refl _ _).drew⟩
    unfold cutV
    rw [if_pos (by omega)]
    rfl
set_option maxRecDepth 8000 in
set_option maxHeartbeats 1000000 in
theorem cut_any (s : ByteArray) (c : UInt8) (w : World) (hn : s.size < 100000) :
    Calls Try.prog 23 #[.string s, .string ⟨#[c]⟩] w fun e w' => e = .returned (cutV s (Lib.indexByte s.data.toList c)) ∧ Below w.heap.size w w' := by
  have hix := lite_cut s c w hn
  obtain ⟨a, b, d, hv⟩ : ∃ a b d, cutV s (Lib.indexByte s.data.toList c) = .tuple #[.string a, .string b, .bool d] := by
    unfold cutV
    split
    · exact ⟨_, _, _, rfl⟩
    · exact ⟨_, _, _, rfl⟩
  rw [hv] at hix ⊢
  go_enter Try.func23, Try.ntmps23
  go_wp2_with (go_at_call 42; refine hix.mono ?_; rintro e w' ⟨rfl, hb⟩)
  go_ret3
  exact ⟨rfl, hb⟩
end Go.Proofs.Ytggbjpebdmlahaa
