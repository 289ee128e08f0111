/- '==' between numbers of 256 bits and between points, as the model runs it. No conditions beyond numbers of 256 bits. -/
import Derived.Test.YtdhaedjmlddjcaaPointB
import Derived.Test.YtdhaedjmlddjcaaMonoB
import Derived.ChangeKeysEq
namespace Go.Proofs.Ytdhaedjmlddjcaa
open Go.RowKit Go.Mono Go.Num

theorem num_inj {a b : Nat} (ha : a < W ^ 4) (hb : b < W ^ 4) (h0 : wd a 0 = wd b 0) (h1 : wd a 1 = wd b 1) (h2 : wd a 2 = wd b 2) (h3 : wd a 3 = wd b 3) : a = b := by
  rw [← Nat.mod_eq_of_lt ha, ← Nat.mod_eq_of_lt hb]
  rw [mod_pow_succ a 3, mod_pow_succ b 3, mod_pow_succ a 2, mod_pow_succ b 2, mod_pow_succ a 1, mod_pow_succ b 1, mod_pow_succ a 0, mod_pow_succ b 0, h0, h1, h2, h3, Nat.pow_zero, Nat.mod_one, Nat.mod_one]
def eqN (a b : Nat) : Bool := decide (a = b)
theorem words_eq {a b : Nat} (ha : a < W ^ 4) (hb : b < W ^ 4) : (wd a 0 = wd b 0 ∧ wd a 1 = wd b 1 ∧ wd a 2 = wd b 2 ∧ wd a 3 = wd b 3) ↔ a = b :=
  ⟨fun ⟨h0, h1, h2, h3⟩ => num_inj ha hb h0 h1 h2 h3, fun h => by subst h; exact ⟨rfl, rfl, rfl, rfl⟩⟩

theorem part_num (a : Nat) (k : Nat) (hk : k < 4) (w : World) : (part 22 #[.int .u64 (wd a 0), .int .u64 (wd a 1), .int .u64 (wd a 2), .int .u64 (wd a 3)] k).run Try.prog w = .ok (.int .u64 (wd a k)) w := by
  rcases lt4 hk with rfl | rfl | rfl | rfl <;> kernel_rfl

theorem eqItems_num (d : Nat) (a b : Nat) (w : World) : ∀ (l : List Nat), (∀ i ∈ l, i < 4) →
    (Op.eqItems (d + 1) 22 1 #[.int .u64 (wd a 0), .int .u64 (wd a 1), .int .u64 (wd a 2), .int .u64 (wd a 3)] #[.int .u64 (wd b 0), .int .u64 (wd b 1), .int .u64 (wd b 2), .int .u64 (wd b 3)] l).run Try.prog w = .ok (l.all fun i => wd a i == wd b i) w
  | [], _ => rfl
  | i :: l, h => by
    have hi := h i (by simp)
    simp only [Op.eqItems, Sem.run_bind, Nat.mul_one, part_num _ i hi, Result.andThen_ok, run_equalIn_int (h := Try.underlying22)]
    have e : ((wd a i : Int) == (wd b i : Int)) = (wd a i == wd b i) := by
      rw [Bool.eq_iff_iff]; simp; omega
    rw [e]
    cases hc : (wd a i == wd b i)
    · simp [hc]
    · simp only [Bool.not_true, Bool.false_eq_true, if_false]
      rw [eqItems_num d a b w l (fun j hj => h j (by simp [hj]))]
      simp [hc]

theorem eq_num_d (d : Nat) (a b : Nat) (w : World) (ha : a < W ^ 4) (hb : b < W ^ 4) : (Op.equalIn (d + 1 + 1) 26 (num a) (num b)).run Try.prog w = .ok (eqN a b) w := by
  rw [run_equalIn_array w (d + 1) _ _ Try.underlying26 (i := (Try.prog.info? 22).getD default) (by kernel_rfl), show Try.prog.cellsOf 22 = 1 from by kernel_rfl, show List.range 4 = [0, 1, 2, 3] from rfl,
    eqItems_num d a b w [0, 1, 2, 3] (by simp)]
  congr 1
  unfold eqN
  rw [Bool.eq_iff_iff, decide_eq_true_iff, ← words_eq ha hb]
  simp
theorem eq_num (a b : Nat) (w : World) (ha : a < W ^ 4) (hb : b < W ^ 4) : (Op.equalIn 10000 26 (num a) (num b)).run Try.prog w = .ok (eqN a b) w := eq_num_d 9998 a b w ha hb

theorem part_ptX (x y : Nat) (w : World) : (part 26 #[.int .u64 (wd x 0), .int .u64 (wd x 1), .int .u64 (wd x 2), .int .u64 (wd x 3), .int .u64 (wd y 0), .int .u64 (wd y 1), .int .u64 (wd y 2), .int .u64 (wd y 3)] 0).run Try.prog w = .ok (num x) w := by kernel_rfl
theorem part_ptY (x y : Nat) (w : World) : (part 26 #[.int .u64 (wd x 0), .int .u64 (wd x 1), .int .u64 (wd x 2), .int .u64 (wd x 3), .int .u64 (wd y 0), .int .u64 (wd y 1), .int .u64 (wd y 2), .int .u64 (wd y 3)] 4).run Try.prog w = .ok (num y) w := by kernel_rfl
theorem eq_pt (x y u v : Nat) (w : World) (hx : x < W ^ 4) (hy : y < W ^ 4) (hu : u < W ^ 4) (hv : v < W ^ 4) : (Op.equalIn 10000 28 (pt x y) (pt u v)).run Try.prog w = .ok (eqN x u && eqN y v) w := by
  rw [run_equalIn_struct (d := 9999) (w := w) _ _ _ (by kernel_rfl) (by kernel_rfl)]
  have hf : (Try.prog.fieldsOf 28).toList.map (fun f => (f.name, f.type, f.offset)) = [("X", 26, 0), ("Y", 26, 4)] := by kernel_rfl
  generalize (Try.prog.fieldsOf 28).toList = fs at *
  rcases fs with _ | ⟨f, _ | ⟨g, _ | ⟨_, _⟩⟩⟩
  · simp at hf
  · simp at hf
  · simp only [List.map_cons, List.map_nil, List.cons.injEq, Prod.mk.injEq, and_true] at hf
    obtain ⟨⟨n1, t1, o1⟩, n2, t2, o2⟩ := hf
    have h1 := eq_num_d 9997 x u w hx hu
    have h2 := eq_num_d 9997 y v w hy hv
    cases hc : eqN x u <;> cases hd : eqN y v <;> rw [hc] at h1 <;> rw [hd] at h2 <;>
      simp [Op.eqFields, n1, t1, o1, n2, t2, o2, part_ptX, part_ptY, h1, h2]
  · simp at hf
end Go.Proofs.Ytdhaedjmlddjcaa
