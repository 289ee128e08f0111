/- A hash's state as the program holds it: eight numbers, the bytes that are left, how many came; frames. Plain lemmas, no conditions. -/
import Derived.Test.YtggbjpebdmlahaaShaD
import Derived.Lib.AppendStr
import Derived.OwnWalk
namespace Go.Num
open Go Go.RowKit Go.Proofs Go.Lib
/-- The cells of some bytes. -/
def bl (f : Nat → Nat) (r : Nat) : List Value := (List.range r).map fun j => .int .u8 (f j)
theorem bl_length (f : Nat → Nat) (r : Nat) : (bl f r).length = r := by simp [bl]
theorem bl_get (f : Nat → Nat) {r j : Nat} (h : j < r) : (bl f r)[j]? = some (.int .u8 (f j)) := by simp [bl, h]
theorem bl_congr {f g : Nat → Nat} {r : Nat} (h : ∀ j, j < r → f j = g j) : bl f r = bl g r := by
  unfold bl
  apply List.map_congr_left
  intro j hj
  rw [h j (by simpa using hj)]
theorem bl_add (f : Nat → Nat) (r m : Nat) : bl f r ++ bl (fun j => f (r + j)) m = bl f (r + m) := by
  unfold bl
  rw [List.range_add, List.map_append, List.map_map]
  rfl
theorem strCells_bstr (f : Nat → Nat) (m : Nat) (hf : ∀ j, j < m → f j < 256) : strCells (bstr f m) = bl f m := by
  unfold strCells bl bstr btext
  simp only [List.map_map]
  apply List.map_congr_left
  intro j hj
  have := hf j (by simpa using hj)
  simp only [Function.comp, UInt8.toNat_ofNat']
  rw [Nat.mod_eq_of_lt this]
theorem bl_one (f : Nat → Nat) (r : Nat) : ∀ u ∈ bl f r, u.oneCell' = true := by
  intro u hu
  obtain ⟨j, _, rfl⟩ := List.mem_map.1 hu
  rfl
theorem run_ownedB {P : Program} {w : World} {base n src e dst : Nat} {v : Value} {f : Nat → Nat} (h : w.ownsRow base e 1 v n (bl f n)) (hn : 0 < n) (hs : P.underlying src = some (.slice e)) (he : P.underlying e = some (.int .u8)) (hd : P.underlying dst = some .string) :
    (convert src dst v).run P w = .ok (.string (bstr f n)) w := by
  rcases h.2 with ⟨_, h0⟩ | ⟨g, cap, cur, rfl, h2, h3, h4⟩
  · omega
  · rw [run_convert_bytes_arg w src e hs he g 0 n cap ((List.range n).map fun j => (f j : Int)) (by simp) (fun i hi => by
      have := h.cells (g := g) rfl i (.int .u8 (f i)) (bl_get f hi)
      have e0 : (⟨g, 0, none⟩ : Addr).add i = ⟨g, 0 + i, none⟩ := by
        unfold Addr.add
        split
        · rename_i hz; subst hz; rfl
        · rfl
      rw [← e0, this]
      simp [List.getD, hi]) dst hd]
    congr 2
    unfold strOfNums bstr btext
    congr 1
    simp
/-- A row stays a row where its block stays. -/
theorem owns_same {w w' : World} {base e size n : Nat} {v : Value} {xs : List Value} (h : w.ownsRow base e size v n xs) (hg : ∀ g, v.ownBlock = some g → w'.heap[g]? = w.heap[g]?) : w'.ownsRow base e size v n xs :=
  ⟨h.1, h.2.imp id fun ⟨g, cap, cur, h1, h2, h3, h4⟩ => ⟨g, cap, cur, h1, h2, by rw [hg g (by rw [h1]; rfl)]; exact h3, h4⟩⟩
/-- The head of a row. -/
theorem owns_none {w : World} {base e size n g cap : Nat} {xs : List Value} (h : w.ownsRow base e size (.slice (some ⟨g, 0, none⟩) n cap) n xs) : w.ownsRow base e size (.slice (some ⟨g, 0, none⟩) 0 cap) 0 [] := by
  rcases h.2 with ⟨h', _⟩ | ⟨g', cap', cur, h', hb, hg, hnc, hcm, hcs, _⟩
  · simp at h'
  · simp only [Value.slice.injEq, Option.some.injEq, Addr.mk.injEq, and_true, true_and] at h'
    obtain ⟨rfl, rfl⟩ := h'
    exact ⟨by simp, .inr ⟨g, cap, cur, rfl, hb, hg, Nat.zero_le _, hcm, hcs, by simp⟩⟩
/-- What a world keeps of another: all blocks but some. -/
structure Fr (X : Nat → Prop) (w w' : World) : Prop where
  os : w'.os = w.os
  tape : w'.tape = w.tape
  output : w'.output = w.output
  size : w.heap.size ≤ w'.heap.size
  block : ∀ k, k < w.heap.size → ¬ X k → w'.heap[k]? = w.heap[k]?
section
variable {X Y : Nat → Prop} {a b c w w' : World}
theorem Fr.refl (X : Nat → Prop) (w : World) : Fr X w w := ⟨rfl, rfl, rfl, Nat.le_refl _, fun _ _ _ => rfl⟩
theorem Fr.trans (h : Fr X a b) (k : Fr X b c) : Fr X a c :=
  ⟨k.os.trans h.os, k.tape.trans h.tape, k.output.trans h.output, Nat.le_trans h.size k.size, fun i hi hx => (k.block i (Nat.lt_of_lt_of_le hi h.size) hx).trans (h.block i hi hx)⟩
/-- What a later step turns may be whatever is new. -/
theorem Fr.trans' (h : Fr X a b) (k : Fr Y b c) (hy : ∀ i, i < a.heap.size → Y i → X i) : Fr X a c :=
  ⟨k.os.trans h.os, k.tape.trans h.tape, k.output.trans h.output, Nat.le_trans h.size k.size, fun i hi hx => (k.block i (Nat.lt_of_lt_of_le hi h.size) (fun y => hx (hy i hi y))).trans (h.block i hi hx)⟩
theorem Fr.mono (h : Fr X a b) (hx : ∀ i, X i → Y i) : Fr Y a b := ⟨h.os, h.tape, h.output, h.size, fun k hk hy => h.block k hk (fun x => hy (hx k x))⟩
theorem Fr.alloc (h : Fr X a w) (o : Obj) : Fr X a (w.alloc o) := h.trans ⟨rfl, rfl, rfl, by simp, fun k hk _ => Below.heap_alloc _ _ _ hk⟩
theorem Fr.drew (h : Fr X a w) : Fr X a w.drew := ⟨h.os, h.tape, h.output, h.size, h.block⟩
theorem Fr.setCell (h : Fr X a w) {p : Addr} (hp : X p.block) (u : Value) : Fr X a (w.setCell p u) :=
  h.trans ⟨rfl, rfl, rfl, by simp [World.setCell], fun k _ hx => Below.heap_setCell _ _ _ _ (fun e => hx (e ▸ hp))⟩
theorem Fr.grown (h : Fr X a w) {row : Option Nat} (hg : w.grownBy w' row) (hr : ∀ k, row = some k → k < a.heap.size → X k) : Fr X a w' :=
  ⟨hg.os.trans h.os, hg.tape.trans h.tape, hg.output.trans h.output, Nat.le_trans h.size hg.size, fun k hk hx => (hg.block k (Nat.lt_of_lt_of_le hk h.size) (fun e => hx (hr k e.symm hk))).trans (h.block k hk hx)⟩
theorem Fr.of_below (h : Below w.heap.size w w') : Fr X w w' := ⟨h.os, h.tape, h.output, h.size, fun k hk _ => h.block k hk⟩
theorem Fr.below {B : Nat} (h : Fr X w w') (hB : B ≤ w.heap.size) (hx : ∀ k, X k → B ≤ k) : Below B w w' :=
  ⟨h.os, h.tape, h.output, h.size, fun k hk => h.block k (by omega) (fun x => by have := hx k x; omega)⟩
theorem Fr.at_ (h : Fr X w w') {k : Nat} {o : Obj} (hk : w.heap[k]? = some o) (hx : ¬ X k) : w'.heap[k]? = some o :=
  (h.block k (Go.Mono.lt_of_some hk) hx).trans hk
theorem Fr.putObj_same (h : Fr X a w) {l : Nat} {o : Obj} (hl : X l) : Fr X a (w.putObj l o) :=
  h.trans ⟨rfl, rfl, rfl, by simp [World.putObj], fun k _ hx => World.putObj_heap_other (fun e => hx (e ▸ hl))⟩
end
/-- The numbers behind c blocks of a stream of bytes. -/
def hashN (f : Nat → Nat) : Nat → Nat → BitVec 32
  | 0 => hB
  | c + 1 => nextB (fun j => f (64 * c + j)) (hashN f c)
/-- The cells of a state. -/
def stCells (h : Nat → BitVec 32) (v : Value) (n : Nat) : Array Value := #[.int .u32 (nv (h 0)), .int .u32 (nv (h 1)), .int .u32 (nv (h 2)), .int .u32 (nv (h 3)), .int .u32 (nv (h 4)), .int .u32 (nv (h 5)), .int .u32 (nv (h 6)), .int .u32 (nv (h 7)), v, .int .i64 n]
section
variable {w : World} {p T n : Nat} {h : Nat → BitVec 32} {v : Value} {z : Nat × Nat}
theorem st_v (hp : w.heap[p]? = some (.cells (stCells h v n) T z)) : w.cell? ⟨p, 8, none⟩ = some v := cell_of hp 8
theorem st_n (hp : w.heap[p]? = some (.cells (stCells h v n) T z)) : w.cell? ⟨p, 9, none⟩ = some (.int .i64 n) := cell_of hp 9
theorem st_set_v (hp : w.heap[p]? = some (.cells (stCells h v n) T z)) (v' : Value) : (w.setCell ⟨p, 8, none⟩ v').heap[p]? = some (.cells (stCells h v' n) T z) := hp_set hp
theorem st_set_n (hp : w.heap[p]? = some (.cells (stCells h v n) T z)) (n' : Nat) : (w.setCell ⟨p, 9, none⟩ (.int .i64 n')).heap[p]? = some (.cells (stCells h v n') T z) := hp_set hp
end
/-- The state at p: N bytes of the stream came; the row of what is left lies from B on. -/
structure StAt (w : World) (T e p B : Nat) (f : Nat → Nat) (N n : Nat) (v : Value) : Prop where
  cells : w.heap[p]? = some (.cells (stCells (hashN f (N / 64)) v n) T)
  row : w.ownsRow B e 1 v (N % 64) (bl (fun j => f (64 * (N / 64) + j)) (N % 64))
theorem own_ne {w : World} {B e n b T : Nat} {v : Value} {xs : List Value} {cs : Array Value} {z : Nat × Nat} (hrow : w.ownsRow B e 1 v n xs) (hb : w.heap[b]? = some (.cells cs T z)) (hT : T ≠ e) : v.ownBlock ≠ some b := fun hk => by
  rcases hrow.2 with ⟨rfl, _⟩ | ⟨g, cap, cur, rfl, _, hg, _⟩
  · simp [Value.ownBlock] at hk
  · simp [Value.ownBlock] at hk
    subst hk
    rw [hg] at hb
    simp at hb
    exact hT hb.2.1.symm
theorem StAt.ne {w : World} {T e p B : Nat} {f : Nat → Nat} {N n : Nat} {v : Value} (h : StAt w T e p B f N n v) (hT : T ≠ e) (g : Nat) (hg : v.ownBlock = some g) : g ≠ p := fun e => own_ne h.row h.cells hT (e ▸ hg)
theorem StAt.keep {w w' : World} {T e p B : Nat} {f : Nat → Nat} {N n : Nat} {v : Value} (h : StAt w T e p B f N n v) (hp : w'.heap[p]? = w.heap[p]?) (hg : ∀ g, v.ownBlock = some g → w'.heap[g]? = w.heap[g]?) : StAt w' T e p B f N n v :=
  ⟨by rw [hp]; exact h.cells, owns_same h.row hg⟩
theorem hashN_congr {f g : Nat → Nat} : ∀ c, (∀ j, j < 64 * c → f j = g j) → hashN f c = hashN g c
  | 0, _ => rfl
  | c + 1, h => by
    have ih := hashN_congr c (fun j hj => h j (by omega))
    have e : ∀ (k : Nat) (p q : Nat → Nat), (∀ j, j < 64 → p j = q j) → ∀ i, k ≤ 64 → sched p k i = sched q k i := by
      intro k p q hpq
      induction k with
      | zero => intro i _; rfl
      | succ k ihk =>
        intro i hk
        show (if i = k then nextW p (sched p k) k else sched p k i) = (if i = k then nextW q (sched q k) k else sched q k i)
        have e1 : sched p k = sched q k := funext fun j => ihk j (by omega)
        rw [e1]
        split
        · unfold nextW
          by_cases h16 : k < 16
          · rw [if_pos h16, if_pos h16]
            unfold wordB byB
            rw [hpq _ (by omega), hpq _ (by omega), hpq _ (by omega), hpq _ (by omega)]
          · rw [if_neg h16, if_neg h16]
        · rfl
    have e2 : ∀ (p q : Nat → Nat) (x : Nat → BitVec 32), (∀ j, j < 64 → p j = q j) → nextB p x = nextB q x := by
      intro p q x hpq
      have e3 : sched p 64 = sched q 64 := funext fun i => e 64 p q hpq i (Nat.le_refl _)
      have e4 : ∀ i, runB p x i = runB q x i := by
        intro i
        induction i with
        | zero => rfl
        | succ i ihi =>
          show stepB (kB i) (sched p 64 i) (runB p x i) = stepB (kB i) (sched q 64 i) (runB q x i)
          rw [e3, ihi]
      funext j
      unfold nextB
      rw [e4]
    show nextB _ (hashN f c) = nextB _ (hashN g c)
    rw [ih]
    exact e2 _ _ _ (fun j hj => h _ (by omega))
end Go.Num
