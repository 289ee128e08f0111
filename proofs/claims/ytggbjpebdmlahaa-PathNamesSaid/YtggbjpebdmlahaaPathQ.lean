/- scan.May, path.Parse: what each call comes to. No conditions beyond the sizes. -/
import Derived.Test.YtggbjpebdmlahaaPathP
import Derived.Test.YtggbjpebdmlahaaPathG
import Derived.Test.YtggbjpebdmlahaaPathH
namespace Go.Num
open Go Go.RowKit
/-- A text that may be a part. -/
def strMay (s : ByteArray) : Bool := mayPart (byOf s) s.size
theorem mayPart_32 (f : Nat → Nat) (n : Nat) (h : mayPart f n = true) : n = 32 := by
  unfold mayPart at h
  simp only [Bool.and_eq_true, beq_iff_eq] at h
  exact h.1
end Go.Num
namespace Go.Proofs.Ytggbjpebdmlahaa
open Go.RowKit Go.Mono Go.Num
/-- A text that may be a name. -/
def strName (s : ByteArray) : Bool := mayName (byOf s) s.size
set_option maxRecDepth 8000 in
set_option maxHeartbeats 400000 in
theorem name_any (s : ByteArray) (w : World) (hn : s.size < 100000) :
    Calls Try.prog 8 #[.string s] w fun e w' => e = .returned (.bool (strName s)) ∧ Below w.heap.size w w' := by
  have h := mayName_any (byOf s) s.size w hn (byOf_lt s)
  rw [bstr_byOf] at h
  exact h
set_option maxRecDepth 8000 in
set_option maxHeartbeats 400000 in
theorem may_any (s : ByteArray) (w : World) (hn : s.size < 100000) :
    Calls Try.prog 24 #[.string s] w fun e w' => e = .returned (.bool (strMay s)) ∧ Below w.heap.size w w' := by
  have h := getBase32_any (byOf s) s.size w hn (byOf_lt s)
  rw [bstr_byOf] at h
  have h32 := mayPart_32 (byOf s) s.size
  unfold strMay
  generalize mayPart (byOf s) s.size = B at *
  go_enter Try.func24, Try.ntmps24
  go_wp2_with (go_at_call 43; refine h.mono ?_; rintro e w' ⟨s', rfl, hb⟩)
  · rename_i hB
    have h32 := h32 hB
    go_ret
    refine ⟨?_, hb⟩
    rw [hB]
    rfl
  · rename_i hB
    go_ret
    refine ⟨?_, hb⟩
    rw [Bool.eq_false_iff.2 hB]
    rfl
/-- The words ahead of a path's part. -/
def dirS : ByteArray := ⟨#[47, 110, 105, 120, 47, 115, 116, 111, 114, 101, 47]⟩
/-- What stands behind them. -/
def restS (s : ByteArray) : ByteArray := ⟨(Lib.trimPrefix s.data.toList dirS.data.toList).toArray⟩
def noPath : Value := .tuple #[.string ⟨#[]⟩, .string ⟨#[]⟩, .bool false]
/-- A path's parts, cut at i. -/
def pathAt (r : ByteArray) (i : Int) : Value :=
  if 0 ≤ i ∧ strMay (r.extract 0 i.toNat) = true ∧ strName (r.extract (i.toNat + 1) r.size) = true then .tuple #[.string (r.extract 0 i.toNat), .string (r.extract (i.toNat + 1) r.size), .bool true] else noPath
def parseV (s : ByteArray) : Value := if Lib.hasPrefix s.data.toList dirS.data.toList = true then pathAt (restS s) (Lib.indexByte (restS s).data.toList 45) else noPath
set_option maxRecDepth 8000 in
set_option maxHeartbeats 1000000 in
theorem parse_any (s : ByteArray) (w : World) (hn : s.size < 100000) :
    Calls Try.prog 11 #[.string s] w fun e w' => e = .returned (parseV s) ∧ Below w.heap.size w w' := by
  have hpre := fun w => cutPrefix_any s dirS w
  have hrs : (restS s).size < 100000 := by
    show (Lib.trimPrefix s.data.toList dirS.data.toList).length < 100000
    have hl : s.data.toList.length = s.size := rfl
    unfold Lib.trimPrefix
    split
    · simp only [List.length_drop]; omega
    · omega
  have hcut := fun w => cut_any (restS s) 45 w hrs
  unfold parseV
  rw [show (⟨(Lib.trimPrefix s.data.toList dirS.data.toList).toArray⟩ : ByteArray) = restS s from rfl] at hpre
  generalize Lib.hasPrefix s.data.toList dirS.data.toList = H at *
  generalize restS s = R at *
  unfold dirS at hpre
  rcases index_cases R 45 with hi | ⟨k, hi, hk⟩
  · rw [hi] at hcut ⊢
    have hv : pathAt R (-1) = noPath := by unfold pathAt; rw [if_neg (by omega)]
    rw [hv]
    have hc : cutV R (-1) = .tuple #[.string R, .string ⟨#[]⟩, .bool false] := rfl
    rw [hc] at hcut
    go_enter Try.func11, Try.ntmps11
    go_wp2_with (first
      | (go_at_call 22; refine (hpre _).mono ?_; rintro e w1 ⟨rfl, rfl⟩)
      | (go_at_call 23; refine (hcut _).mono ?_; rintro e w2 ⟨rfl, hb2⟩))
    all_goals
      go_ret3
      refine ⟨?_, hb2⟩
      first
        | rfl
        | (cases H <;> first | rfl | contradiction)
        | (cases H <;> cases A <;> cases B <;> first | rfl | contradiction)
  · rw [hi] at hcut ⊢
    have hc : cutV R k = .tuple #[.string (R.extract 0 k), .string (R.extract (k + 1) R.size), .bool true] := by unfold cutV; rw [if_pos (by omega)]; rfl
    have hv : pathAt R k = if strMay (R.extract 0 k) = true ∧ strName (R.extract (k + 1) R.size) = true then .tuple #[.string (R.extract 0 k), .string (R.extract (k + 1) R.size), .bool true] else noPath := by
      unfold pathAt
      simp
    rw [hv]
    rw [hc] at hcut
    have hA := fun w => may_any (R.extract 0 k) w (by simp; omega)
    have hB := fun w => name_any (R.extract (k + 1) R.size) w (by simp; omega)
    generalize strMay (R.extract 0 k) = A at *
    generalize strName (R.extract (k + 1) R.size) = B at *
    generalize R.extract 0 k = a at *
    generalize R.extract (k + 1) R.size = b at *
    go_enter Try.func11, Try.ntmps11
    go_wp2_with (first
      | (go_at_call 22; refine (hpre _).mono ?_; rintro e w1 ⟨rfl, rfl⟩)
      | (go_at_call 23; refine (hcut _).mono ?_; rintro e w2 ⟨rfl, hb2⟩)
      | (go_at_call 24; refine (hA _).mono ?_; rintro e w3 ⟨rfl, hb3⟩; have hb2 := below_tr' hb2 hb3; clear hb3)
      | (go_at_call 8; refine (hB _).mono ?_; rintro e w4 ⟨rfl, hb4⟩; have hb2 := below_tr' hb2 hb4; clear hb4))
    all_goals
      go_ret3
      refine ⟨?_, hb2⟩
      first
        | rfl
        | (cases H <;> first | rfl | contradiction)
        | (cases H <;> cases A <;> cases B <;> first | rfl | contradiction)
end Go.Proofs.Ytggbjpebdmlahaa
