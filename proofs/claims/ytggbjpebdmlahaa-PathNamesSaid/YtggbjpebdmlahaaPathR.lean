/- path.Make: what each call comes to. No conditions beyond the sizes. -/
import Derived.Test.YtggbjpebdmlahaaPathQ
import Derived.Test.YtggbjpebdmlahaaShelf
namespace Go.Num
open Go Go.RowKit
/-- The text that a path's hash is of. -/
def wholeL (kind hash name : ByteArray) : List ByteArray := [kind, ⟨#[115, 104, 97, 50, 53, 54]⟩, bstr (hexAt (byOf hash)) 64, ⟨#[47, 110, 105, 120, 47, 115, 116, 111, 114, 101]⟩, name]
def wholeS (kind hash name : ByteArray) : ByteArray := ⟨(Lib.join ((wholeL kind hash name).map (·.data.toList)) (⟨#[58]⟩ : ByteArray).data.toList).toArray⟩
theorem shaN_lt (f : Nat → Nat) (n j : Nat) : shaN f n j < 256 := by
  unfold shaN outB
  exact Nat.mod_lt _ (by decide)
theorem five_cells (w : World) (a b c d e : ByteArray) (t : TypeId) : ∀ (j : Nat) x, [a, b, c, d, e][j]? = some x → (w.alloc (.cells #[.string a, .string b, .string c, .string d, .string e] t)).cell? ⟨w.heap.size, 0 + j, none⟩ = some (.string x) := by
  intro j x hx
  rw [cell_of (b := w.heap.size) (c := #[.string a, .string b, .string c, .string d, .string e]) (t := t) (z := (0, 0)) (by show (w.heap.push _)[w.heap.size]? = _; exact Array.getElem?_push_size) (0 + j), Nat.zero_add]
  match j, hx with
  | 0, hx => cases hx; rfl
  | 1, hx => cases hx; rfl
  | 2, hx => cases hx; rfl
  | 3, hx => cases hx; rfl
  | 4, hx => cases hx; rfl
theorem whole_size (kind hash name : ByteArray) : (wholeS kind hash name).size = kind.size + name.size + 84 := by
  have h1 : (bstr (hexAt (byOf hash)) 64).data.toList.length = 64 := by
    show (bstr (hexAt (byOf hash)) 64).size = 64
    exact bstr_size _ _
  have h2 : kind.data.toList.length = kind.size := rfl
  have h3 : name.data.toList.length = name.size := rfl
  show (Lib.join ((wholeL kind hash name).map (·.data.toList)) [58]).length = _
  unfold wholeL
  simp only [Lib.join, List.map_cons, List.map_nil, List.intercalate, List.intersperse, List.flatten_cons, List.flatten_nil, List.length_append, List.length_cons, List.length_nil, h1, h2, h3]
  omega
/-- The part of a text. -/
def partF (f : Nat → Nat) (n : Nat) : Nat → Nat := b32S (foldN (shaN f n) 32) 20
def partS (s : ByteArray) : ByteArray := bstr (partF (byOf s) s.size) 32
end Go.Num
namespace Go.Proofs.Ytggbjpebdmlahaa
open Go.RowKit Go.Mono Go.Num
def madeS (kind hash name : ByteArray) : ByteArray := dirS ++ partS (wholeS kind hash name) ++ ⟨#[45]⟩ ++ name
def madeV (kind hash name : ByteArray) : Value := if hash.size = 32 ∧ strName name = true then .tuple #[.string (madeS kind hash name), .bool true] else .tuple #[.string ⟨#[]⟩, .bool false]
set_option maxRecDepth 8000 in
set_option maxHeartbeats 1000000 in
theorem make_any (kind hash name : ByteArray) (w : World) (hk : kind.size < 100000) (hn : name.size < 100000) :
    Calls Try.prog 12 #[.string kind, .string hash, .string name] w fun e w' => e = .returned (madeV kind hash name) ∧ Below w.heap.size w w' := by
  have hB := fun w => name_any name w hn
  have hx := fun w (h : hash.size = 32) => hex_any (byOf hash) hash.size w (by omega) (by omega) (byOf_lt hash)
  rw [bstr_byOf] at hx
  have hsz := whole_size kind hash name
  have hj := fun bk c (w : World) hcells hb hc => Try.strings_Join bk 0 c (wholeL kind hash name) ⟨#[58]⟩ w hcells hb (by show 5 ≤ _; decide) hc (by
    have : (Lib.join ((wholeL kind hash name).map (·.data.toList)) (⟨#[58]⟩ : ByteArray).data.toList).length = (wholeS kind hash name).size := rfl
    omega)
  have hsm := fun w => sum_any (byOf (wholeS kind hash name)) (wholeS kind hash name).size w (byOf_lt _) (by omega)
  rw [bstr_byOf] at hsm
  unfold madeV madeS partS partF
  rw [show (⟨(Lib.join ((wholeL kind hash name).map (·.data.toList)) (⟨#[58]⟩ : ByteArray).data.toList).toArray⟩ : ByteArray) = wholeS kind hash name from rfl] at hj
  have hf := fun w => fold_any (shaN (byOf (wholeS kind hash name)) (wholeS kind hash name).size) 32 w (by decide) (shaN_lt _ _)
  have hb := fun w => base32_any (foldN (shaN (byOf (wholeS kind hash name)) (wholeS kind hash name).size) 32) 20 w (by decide) (by decide) (foldN_lt _ (shaN_lt _ _) _)
  rw [show len32 20 = 32 from rfl] at hb
  generalize strName name = B at *
  unfold wholeL at hj
  generalize wholeS kind hash name = W at *
  generalize bstr (shaN (byOf W) W.size) 32 = SH at *
  have hP := bstr_size (b32S (foldN (shaN (byOf W) W.size) 32) 20) 32
  generalize bstr (b32S (foldN (shaN (byOf W) W.size) 32) 20) 32 = P at *
  generalize bstr (foldN (shaN (byOf W) W.size) 32) 20 = FO at *
  by_cases hh : hash.size = 32
  · have hx := fun w => hx w hh
    have hh' : (hash.size : Int) = 32 := by omega
    rw [show 2 * hash.size = 64 by omega] at hx
    generalize bstr (hexAt (byOf hash)) 64 = HX at *
    go_enter Try.func12, Try.ntmps12
    go_wp2_with (first
      | (go_at_call 8; refine (hB _).mono ?_; rintro e w1 ⟨rfl, hb1⟩)
      | (go_at_call 27; refine (hx _).mono ?_; rintro e w2 ⟨rfl, hb2⟩
         have hjj := (hj w2.heap.size 5 (w2.alloc (Obj.cells #[Value.string kind, Value.string ⟨#[115, 104, 97, 50, 53, 54]⟩, Value.string HX, Value.string ⟨#[47, 110, 105, 120, 47, 115, 116, 111, 114, 101]⟩, Value.string name] 9)) (five_cells _ _ _ _ _ _ _) (by simp) (Nat.le_refl 5))
         have hb2 := ((below_tr' hb1 hb2).alloc (below_tr' hb1 hb2).size (Obj.cells #[Value.string kind, Value.string ⟨#[115, 104, 97, 50, 53, 54]⟩, Value.string HX, Value.string ⟨#[47, 110, 105, 120, 47, 115, 116, 111, 114, 101]⟩, Value.string name] 9)))
      | (go_at_call 26; refine hjj.mono ?_; rintro e w3 ⟨rfl, hb3⟩; have hb3 := below_tr' hb2 hb3)
      | (go_at_call 25; refine (hsm _).mono ?_; rintro e w4 ⟨rfl, hb4⟩; have hb4 := below_tr' hb3 hb4)
      | (go_at_call 29; refine (hf _).mono ?_; rintro e w5 ⟨rfl, hb5⟩; have hb5 := below_tr' hb4 hb5)
      | (go_at_call 28; refine (hb _).mono ?_; rintro e w6 ⟨rfl, hb6⟩; have hb6 := below_tr' hb5 hb6))
    all_goals
      go_ret2
      refine ⟨?_, by first | exact hb6 | exact hb1⟩
      first
        | rfl
        | (cases B <;> first | rfl | contradiction)
        | (cases B <;> simp_all; done)
  · have hh' : ¬ (hash.size : Int) = 32 := by omega
    go_enter Try.func12, Try.ntmps12
    go_wp2_with fail
    go_ret2
    exact ⟨rfl, Below.refl _ _⟩
end Go.Proofs.Ytggbjpebdmlahaa
