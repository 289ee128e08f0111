/- What is made has a parse: plain lemmas; law13.awake, law13.PathNames: what each call comes to. No conditions. -/
import Derived.Test.YtggbjpebdmlahaaPathR
import Derived.Test.YtggbjpebdmlahaaPathA
namespace Go.Num
open Go Go.RowKit
theorem index_there (c : UInt8) (n : List UInt8) : ∀ p : List UInt8, c ∉ p → Lib.indexByte (p ++ c :: n) c = p.length
  | [], _ => by simp [Lib.indexByte]
  | b :: l, h => by
    rw [List.mem_cons, not_or] at h
    have ih := index_there c n l h.2
    have hb : (b == c) = false := by rw [beq_eq_false_iff_ne]; exact fun e => h.1 e.symm
    show (if (b == c) = true then 0 else if (Lib.indexByte (l ++ c :: n) c == -1) = true then -1 else Lib.indexByte (l ++ c :: n) c + 1) = _
    rw [ih, hb, if_neg (by simp), if_neg (by simp), List.length_cons]
    rfl
theorem part_no (p : ByteArray) (h : strMay p = true) : (45 : UInt8) ∉ p.data.toList := by
  unfold strMay mayPart at h
  simp only [Bool.and_eq_true, beq_iff_eq, List.all_eq_true, List.mem_range, decide_eq_true_eq] at h
  intro hm
  obtain ⟨j, hj, he⟩ := List.getElem_of_mem hm
  have hj2 : j < p.size := hj
  have h1 := h.2 j hj2
  have h2 : byOf p j = 45 := by
    rw [← byOf_at p hj2]
    show (p.data.toList[j]).toNat = 45
    rw [he]
    rfl
  rw [h2] at h1
  exact absurd h1 (by decide +kernel)
theorem may_made (f : Nat → Nat) : strMay (bstr (b32S f 20) 32) = true := by
  unfold strMay mayPart
  rw [bstr_size]
  simp only [Bool.and_eq_true, beq_iff_eq, List.all_eq_true, List.mem_range, decide_eq_true_eq, true_and]
  intro j hj
  rw [byOf_bstr _ _ _ (by unfold b32S; exact b32_lt _ _ _) hj]
  unfold b32S b32
  have h := val32_let ⟨digN f 20 (len32 20 - 1 - j), Nat.mod_lt _ (by decide)⟩
  simp only at h
  rw [h]
  omega
theorem data_app (a b : ByteArray) : (a ++ b).data.toList = a.data.toList ++ b.data.toList := by simp
theorem cut_left (p n : ByteArray) : (p ++ n).extract 0 p.size = p := by
  apply ByteArray.ext
  rw [ByteArray.data_extract, ByteArray.data_append]
  show (p.data ++ n.data).extract 0 p.data.size = p.data
  rw [Array.extract_append_left, Array.extract_size]
theorem cut_right (p n : ByteArray) (c : UInt8) : (p ++ ⟨#[c]⟩ ++ n).extract (p.size + 1) (p ++ ⟨#[c]⟩ ++ n).size = n := by
  apply ByteArray.ext
  have hs : (p ++ ⟨#[c]⟩ ++ n).size = (p.data ++ #[c]).size + n.data.size := by
    rw [ByteArray.size_append, ByteArray.size_append, Array.size_append]
    rfl
  have h1 : p.size + 1 = (p.data ++ #[c]).size := by
    rw [Array.size_append]
    rfl
  rw [hs, h1, ByteArray.data_extract, ByteArray.data_append, ByteArray.data_append]
  show ((p.data ++ #[c]) ++ n.data).extract (p.data ++ #[c]).size ((p.data ++ #[c]).size + n.data.size) = n.data
  rw [Array.extract_append_right, Array.extract_size]
end Go.Num
namespace Go.Proofs.Ytggbjpebdmlahaa
open Go.RowKit Go.Mono Go.Num
theorem rest_of (r : ByteArray) : restS (dirS ++ r) = r ∧ Lib.hasPrefix (dirS ++ r).data.toList dirS.data.toList = true := by
  have h : Lib.hasPrefix (dirS ++ r).data.toList dirS.data.toList = true := by
    rw [data_app]
    unfold Lib.hasPrefix
    rw [List.isPrefixOf_iff_prefix]
    exact List.prefix_append _ _
  refine ⟨?_, h⟩
  unfold restS Lib.trimPrefix
  rw [if_pos h, data_app, List.drop_left']
  rfl
theorem parse_of (p n : ByteArray) (hp : strMay p = true) (hn : strName n = true) : parseV (dirS ++ p ++ ⟨#[45]⟩ ++ n) = .tuple #[.string p, .string n, .bool true] := by
  have e : dirS ++ p ++ ⟨#[45]⟩ ++ n = dirS ++ (p ++ ⟨#[45]⟩ ++ n) := by rw [ByteArray.append_assoc, ByteArray.append_assoc, ByteArray.append_assoc]
  obtain ⟨h1, h2⟩ := rest_of (p ++ ⟨#[45]⟩ ++ n)
  rw [e]
  unfold parseV
  rw [if_pos h2, h1]
  have h3 : Lib.indexByte (p ++ ⟨#[45]⟩ ++ n).data.toList 45 = p.size := by
    rw [ByteArray.append_assoc, data_app, data_app]
    exact index_there 45 n.data.toList p.data.toList (part_no p hp)
  rw [h3]
  unfold pathAt
  have h4 : (p ++ ⟨#[45]⟩ ++ n).extract 0 p.size = p := by rw [ByteArray.append_assoc]; exact cut_left _ _
  have h5 := cut_right p n 45
  rw [Int.toNat_natCast, h4, h5, if_pos ⟨by omega, hp, hn⟩]
theorem parse_made (kind hash name : ByteArray) (hn : strName name = true) : parseV (madeS kind hash name) = .tuple #[.string (partS (wholeS kind hash name)), .string name, .bool true] := parse_of _ _ (may_made _) hn
theorem made_size (kind hash name : ByteArray) : (madeS kind hash name).size = name.size + 44 := by
  have h : (partS (wholeS kind hash name)).size = 32 := bstr_size _ _
  unfold madeS
  rw [ByteArray.size_append, ByteArray.size_append, ByteArray.size_append, h]
  show 11 + 32 + 1 + _ = _
  omega
theorem store_none : parseV ⟨#[47, 110, 105, 120, 47, 115, 116, 111, 114, 101]⟩ = noPath := by
  unfold parseV
  rw [if_neg (by decide)]
theorem hello_name : strName ⟨#[104, 101, 108, 108, 111]⟩ = true := by decide +kernel
set_option maxRecDepth 8000 in
set_option maxHeartbeats 1000000 in
theorem awake_any (w : World) :
    Calls Try.prog 9 #[] w fun e w' => e = .returned (.bool true) ∧ Below w.heap.size w w' := by
  have h1 := fun w => parse_any ⟨#[47, 110, 105, 120, 47, 115, 116, 111, 114, 101]⟩ w (by decide)
  rw [store_none] at h1
  unfold noPath at h1
  have h2 := fun w => seed_any ⟨#[104]⟩ w
  generalize hS : bstr (byOf ⟨#[104]⟩) 32 = S at h2
  have hz : S.size = 32 := by rw [← hS]; exact bstr_size _ _
  have h3 := fun w => make_any ⟨#[116, 101, 120, 116]⟩ S ⟨#[104, 101, 108, 108, 111]⟩ w (by decide) (by decide)
  have hm := made_size ⟨#[116, 101, 120, 116]⟩ S ⟨#[104, 101, 108, 108, 111]⟩
  have hp := parse_made ⟨#[116, 101, 120, 116]⟩ S ⟨#[104, 101, 108, 108, 111]⟩ hello_name
  unfold madeV at h3
  rw [if_pos ⟨hz, hello_name⟩] at h3
  generalize madeS ⟨#[116, 101, 120, 116]⟩ S ⟨#[104, 101, 108, 108, 111]⟩ = M at *
  have hm : M.size = 49 := hm
  have h4 := fun w => parse_any M w (by omega)
  rw [hp] at h4
  generalize partS _ = P at *
  clear hS hp
  obtain ⟨N, hN⟩ : ∃ N : ByteArray, (⟨#[104, 101, 108, 108, 111]⟩ : ByteArray) = N := ⟨_, rfl⟩
  have hNN : N.toList = [104, 101, 108, 108, 111] := by rw [← hN, Lib.toList_data]
  have h4 : ∀ w, Calls Try.prog 11 #[.string M] w fun e w' => e = .returned (.tuple #[.string P, .string N, .bool true]) ∧ Below w.heap.size w w' := by rw [← hN]; exact h4
  clear hN
  go_enter Try.func9, Try.ntmps9
  go_wp2_with fail
  refine (h1 _).mono ?_
  rintro e w1 ⟨rfl, hb1⟩
  go_wp2_with fail
  refine (h2 _).mono ?_
  rintro e w2 ⟨rfl, hb2⟩
  have hb2 := below_tr' hb1 hb2
  go_wp2_with fail
  refine (h3 _).mono ?_
  rintro e w3 ⟨rfl, hb3⟩
  have hb3 := below_tr' hb2 hb3
  go_wp2_with fail
  refine (h4 _).mono ?_
  rintro e w4 ⟨rfl, hb4⟩
  have hb4 := below_tr' hb3 hb4
  go_wp2_with fail
  go_ret
  exact ⟨rfl, hb4⟩
end Go.Proofs.Ytggbjpebdmlahaa
