/- A row appended to a row. Plain lemmas, no conditions. -/
import Derived.Test.YtggbjpebdmlahaaHashA
import Derived.Laws.OwnMore
namespace Go.Num
open Go Go.RowKit
variable {P : Program} {w : World}
theorem run_append_rows (base B t ty e : Nat) (i : TypeInfo) (z : Value) (bytes : Nat) (ht : P.underlying t = some (.slice e)) (hi : P.info? e = some i) (hz : i.zero = some z) (hsize : i.size = 1) (hby : i.bytes = bytes) (hzs : z.cells.size = 1)
    (v0 v : Value) (n0 r : Nat) (xs ys : List Value) (hdst : w.ownsRow base e 1 v0 n0 xs) (hsrc : w.ownsRow B e 1 v r ys) (h1 : ∀ u ∈ ys, u.oneCell' = true)
    (h63 : n0 + r ≤ maxLen) (hbytes : (n0 + r) * bytes ≤ 140737488355328) (hbase : base ≤ w.heap.size) :
    ∃ v' w', (Builtin.append_ #[t, t] ty #[v0, v]).run P w = .ok v' w' ∧ w'.ownsRow base e 1 v' (n0 + r) (xs ++ ys) ∧ w.grownBy w' v0.ownBlock := by
  rcases hsrc.2 with ⟨h2, h3⟩ | ⟨g, cap, cur, h2, _⟩
  · subst h2; subst h3
    have hy : ys = [] := List.eq_nil_of_length_eq_zero (by simpa using hsrc.1)
    subst hy
    refine ⟨v0, w, ?_, by simpa using hdst, ⟨rfl, rfl, rfl, Nat.le_refl _, fun _ _ _ => rfl⟩⟩
    exact run_append_owned_none w base t ty e i 1 ht hi v0 n0 xs hdst
  · subst h2
    obtain ⟨v', w', hr, ho, hg, _⟩ := run_append_own (P := P) (w := w) base t ty e i z 1 bytes ht hi hz hsize hby hzs (by decide) v0 n0 xs hdst ⟨g, 0, none⟩ r cap ys (by simpa using hsrc.1) (hsrc.cells rfl) h1 h63 hbytes hbase
    exact ⟨v', w', hr, ho, hg⟩
theorem own_form {w : World} {B e size n : Nat} {v : Value} {xs : List Value} (h : w.ownsRow B e size v n xs) : ∃ a c, v = .slice a n c := by
  rcases h.2 with ⟨h1, h2⟩ | ⟨g, cap, cur, h1, _⟩
  · exact ⟨none, 0, by rw [h1, h2]⟩
  · exact ⟨_, _, h1⟩
end Go.Num
