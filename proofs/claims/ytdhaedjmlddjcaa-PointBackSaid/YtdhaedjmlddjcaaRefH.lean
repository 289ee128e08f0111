/- r6.D, r6.plus, r6.flat, r6.AddPoints: what each call comes to, for numbers below the prime. No other conditions. -/
import Derived.Test.YtdhaedjmlddjcaaRefG
namespace Go.Num
open Go Go.RowKit
/-- A point with a denominator. -/
structure T3 where
  x : Nat
  y : Nat
  z : Nat
structure T3.ok (f : T3) : Prop where
  x : f.x < p
  y : f.y < p
  z : f.z < p
abbrev T3.v (f : T3) : Value := .agg #[.int .u64 (wd (f.x) 0), .int .u64 (wd (f.x) 1), .int .u64 (wd (f.x) 2), .int .u64 (wd (f.x) 3), .int .u64 (wd (f.y) 0), .int .u64 (wd (f.y) 1), .int .u64 (wd (f.y) 2), .int .u64 (wd (f.y) 3), .int .u64 (wd (f.z) 0), .int .u64 (wd (f.z) 1), .int .u64 (wd (f.z) 2), .int .u64 (wd (f.z) 3)]
abbrev tri (x y z : Nat) : Value := .agg #[.int .u64 (wd x 0), .int .u64 (wd x 1), .int .u64 (wd x 2), .int .u64 (wd x 3), .int .u64 (wd y 0), .int .u64 (wd y 1), .int .u64 (wd y 2), .int .u64 (wd y 3), .int .u64 (wd z 0), .int .u64 (wd z 1), .int .u64 (wd z 2), .int .u64 (wd z 3)]
def plA (f g : T3) : Nat := fmul f.z g.z
def plB (f g : T3) : Nat := fmul (plA f g) (plA f g)
def plC (f g : T3) : Nat := fmul f.x g.x
def plE (f g : T3) : Nat := fmul f.y g.y
def plF (d : Nat) (f g : T3) : Nat := fmul d (fmul (plC f g) (plE f g))
def plG (d : Nat) (f g : T3) : Nat := fsub (plB f g) (plF d f g)
def plH (d : Nat) (f g : T3) : Nat := fadd (plB f g) (plF d f g)
def plX (f g : T3) : Nat := fsub (fsub (fmul (fadd f.x f.y) (fadd g.x g.y)) (plC f g)) (plE f g)
def plRX (d : Nat) (f g : T3) : Nat := fmul (fmul (plA f g) (plG d f g)) (plX f g)
def plRY (d : Nat) (f g : T3) : Nat := fmul (fmul (plA f g) (plH d f g)) (fadd (plC f g) (plE f g))
def plRZ (d : Nat) (f g : T3) : Nat := fmul (plG d f g) (plH d f g)
def plus3 (d : Nat) (f g : T3) : T3 := ⟨plRX d f g, plRY d f g, plRZ d f g⟩
theorem plus3_ok (d : Nat) (f g : T3) : (plus3 d f g).ok := ⟨fmul_lt _ _, fmul_lt _ _, fmul_lt _ _⟩
def flX (f : T3) : Nat := fmul f.x (finv f.z)
def flY (f : T3) : Nat := fmul f.y (finv f.z)
theorem dd_eq : fmul (fsub 0 121665) (finv 121666) = dd := by decide +kernel
theorem num_121665 : num 121665 = .agg #[.int .u64 121665, .int .u64 0, .int .u64 0, .int .u64 0] :=
  num_of (by decide +kernel) (by decide +kernel) (by decide +kernel) (by decide +kernel)
theorem num_121666 : num 121666 = .agg #[.int .u64 121666, .int .u64 0, .int .u64 0, .int .u64 0] :=
  num_of (by decide +kernel) (by decide +kernel) (by decide +kernel) (by decide +kernel)
end Go.Num
namespace Go.Proofs.Ytdhaedjmlddjcaa
open Go.RowKit Go.Mono Go.Num
set_option maxHeartbeats 400000 in
theorem rd_any (w : World) :
    Calls Try.prog 41 #[] w fun e w' => e = .returned (num dd) ∧ Below w.heap.size w w' := by
  have hs := fun w => rsub_any 0 121665 w (by decide) (by decide)
  rw [num_zero, num_121665] at hs
  have hi := fun w => rinv_any 121666 w (by decide)
  rw [num_121666] at hi
  have hm := fun w => rmulf_any (fsub 0 121665) (finv 121666) w (lt_W (fsub_lt _ _)) (lt_W (finv_lt _))
  rw [dd_eq] at hm
  have Hs := Lib.hid hs
  have Hi := Lib.hid hi
  have Hm := Lib.hid hm
  clear hs hi hm
  generalize fsub 0 121665 = A at *
  generalize finv 121666 = B at *
  generalize dd = D at *
  go_enter Try.func41, Try.ntmps41
  go_wp2_with fail
  obtain ⟨w0, hq_w0⟩ : ∃ w0, (w.alloc (.cells #[.int .u64 0, .int .u64 0, .int .u64 0, .int .u64 0] 26)) = w0 := ⟨_, rfl⟩
  have hR : w0.heap[w.heap.size]? = some (.cells #[.int .u64 0, .int .u64 0, .int .u64 0, .int .u64 0] 26) := by rw [← hq_w0]; exact hp_new _ (by simp)
  have hs_w0 : w0.heap.size = w.heap.size + 1 := by rw [← hq_w0]; simp
  have hw_w0 : Below w.heap.size w w0 := by rw [← hq_w0]; exact (Below.refl w.heap.size w).alloc (Nat.le_refl _) _
  rw [hq_w0]
  clear hq_w0
  clear hs_w0
  refine (Hs.out _).mono ?_
  rintro e w1 ⟨rfl, hb⟩
  replace hw_w0 := below_tr' hw_w0 hb
  replace hR := keep hb hR
  clear hb
  go_wp2_with fail
  refine (Hi.out _).mono ?_
  rintro e w2 ⟨rfl, hb⟩
  replace hw_w0 := below_tr' hw_w0 hb
  replace hR := keep hb hR
  clear hb
  go_wp2_with fail
  refine (Hm.out _).mono ?_
  rintro e w3 ⟨rfl, hb⟩
  replace hw_w0 := below_tr' hw_w0 hb
  replace hR := keep hb hR
  clear hb
  rename_i hK_; refine hK_ _ _ ?_; clear hK_
  refine wpList_storeBlk 4 rfl rfl rfl rfl hR rfl rfl (by kernel_rfl) (by kernel_rfl) ?_
  intro w4 s4
  simp only [Act.put]
  go_wp2_with fail
  exact bodyPost_ret (results_blk Try.results41 rfl s4.at_ Try.underlying26 rfl (by kernel_rfl)) rfl ⟨rfl, s4.below hw_w0 (by omega)⟩
set_option maxHeartbeats 400000 in
theorem flat_any (f : T3) (w : World) (hf : f.ok) :
    Calls Try.prog 39 #[f.v] w fun e w' => e = .returned (pt (flX f) (flY f)) ∧ Below w.heap.size w w' := by
  have Hf := Lib.hid hf
  have Hi := Lib.hid (lt_W (finv_lt f.z))
  clear hf
  go_enter Try.func39, Try.ntmps39
  go_wp2_with fail
  obtain ⟨w0, hq_w0⟩ : ∃ w0, ((w.alloc (.cells #[.int .u64 (wd (f.x) 0), .int .u64 (wd (f.x) 1), .int .u64 (wd (f.x) 2), .int .u64 (wd (f.x) 3), .int .u64 (wd (f.y) 0), .int .u64 (wd (f.y) 1), .int .u64 (wd (f.y) 2), .int .u64 (wd (f.y) 3), .int .u64 (wd (f.z) 0), .int .u64 (wd (f.z) 1), .int .u64 (wd (f.z) 2), .int .u64 (wd (f.z) 3)] 68)).alloc (.cells #[.int .u64 0, .int .u64 0, .int .u64 0, .int .u64 0, .int .u64 0, .int .u64 0, .int .u64 0, .int .u64 0] 28)) = w0 := ⟨_, rfl⟩
  have hA : w0.heap[w.heap.size]? = some (.cells #[.int .u64 (wd (f.x) 0), .int .u64 (wd (f.x) 1), .int .u64 (wd (f.x) 2), .int .u64 (wd (f.x) 3), .int .u64 (wd (f.y) 0), .int .u64 (wd (f.y) 1), .int .u64 (wd (f.y) 2), .int .u64 (wd (f.y) 3), .int .u64 (wd (f.z) 0), .int .u64 (wd (f.z) 1), .int .u64 (wd (f.z) 2), .int .u64 (wd (f.z) 3)] 68) := by rw [← hq_w0]; exact hp_old _ (hp_new _ (by simp))
  have hR : w0.heap[w.heap.size + 1]? = some (.cells #[.int .u64 0, .int .u64 0, .int .u64 0, .int .u64 0, .int .u64 0, .int .u64 0, .int .u64 0, .int .u64 0] 28) := by rw [← hq_w0]; exact hp_new _ (by simp)
  have hs_w0 : w0.heap.size = w.heap.size + 2 := by rw [← hq_w0]; simp
  have hw_w0 : Below w.heap.size w w0 := by rw [← hq_w0]; exact ((Below.refl w.heap.size w).alloc (Nat.le_refl _) _).alloc (by simp) _
  rw [hq_w0]
  clear hq_w0
  clear hs_w0
  have cA := cell_of hA
  go_wp2_with fail
  refine (rinv_any f.z _ (lt_W Hf.out.z)).mono ?_
  rintro e w1 ⟨rfl, hb⟩
  clear cA
  replace hw_w0 := below_tr' hw_w0 hb
  replace hA := keep hb hA
  replace hR := keep hb hR
  clear hb
  go_wp2_with fail
  have hlR := Go.Mono.lt_of_some hR
  obtain ⟨w2, hq_w2⟩ : ∃ w2, (w1.alloc (.cells #[.int .u64 (wd (finv f.z) 0), .int .u64 (wd (finv f.z) 1), .int .u64 (wd (finv f.z) 2), .int .u64 (wd (finv f.z) 3)] 26)) = w2 := ⟨_, rfl⟩
  have hZ : w2.heap[w1.heap.size]? = some (.cells #[.int .u64 (wd (finv f.z) 0), .int .u64 (wd (finv f.z) 1), .int .u64 (wd (finv f.z) 2), .int .u64 (wd (finv f.z) 3)] 26) := by rw [← hq_w2]; exact hp_new _ (by simp)
  have hs_w2 : w2.heap.size = w1.heap.size + 1 := by rw [← hq_w2]; simp
  have hw_w2 : Below w1.heap.size w1 w2 := by rw [← hq_w2]; exact (Below.refl w1.heap.size w1).alloc (Nat.le_refl _) _
  rw [hq_w2]
  clear hq_w2
  replace hw_w0 := below_tr' hw_w0 hw_w2
  replace hA := keep hw_w2 hA
  replace hR := keep hw_w2 hR
  clear hw_w2
  clear hs_w2
  generalize w1.heap.size = bZ at *
  refine wp_region_mono 9 9 [] (fun _ => default) (by kernel_rfl) (by kernel_rfl) (fun _ _ _ _ _ h => h) ?_
  simp only [List.take_succ_cons, List.take_zero, List.drop_succ_cons, List.drop_zero]
  repeat (first
    | (apply head_pure rfl rfl rfl
       case h => (intro w1; go_simp; rfl)
       simp only [Act.put, List.setIfInBounds_toArray, List.set_cons_zero, List.set_cons_succ])
    | (apply head_val rfl rfl rfl rfl
       case h => (intro w1 hC; have cA := cell_of (keep hC (hp_drew hA)); have cZ := cell4 (keep hC (hp_drew hZ)); clear hC; go_simp; rfl)
       simp only [Act.put, List.setIfInBounds_toArray, List.set_cons_zero, List.set_cons_succ]))
  refine head_call rfl rfl rfl rfl (fun w1 hC => by first | (go_simp; done) | (go_simp; rfl)) (fun w1 hC => rmulf_any f.x (finv f.z) w1 (lt_W Hf.out.x) Hi.out) ?_
  simp only [Act.put, List.setIfInBounds_toArray, List.set_cons_zero, List.set_cons_succ]
  rw [show fmul f.x (finv f.z) = flX f from rfl]
  repeat (first
    | (apply head_pure rfl rfl rfl
       case h => (intro w1; go_simp; rfl)
       simp only [Act.put, List.setIfInBounds_toArray, List.set_cons_zero, List.set_cons_succ])
    | (apply head_val rfl rfl rfl rfl
       case h => (intro w1 hC; have cA := cell_of (keep hC (hp_drew hA)); have cZ := cell4 (keep hC (hp_drew hZ)); clear hC; go_simp; rfl)
       simp only [Act.put, List.setIfInBounds_toArray, List.set_cons_zero, List.set_cons_succ]))
  refine head_call rfl rfl rfl rfl (fun w1 hC => by first | (go_simp; done) | (go_simp; rfl)) (fun w1 hC => rmulf_any f.y (finv f.z) w1 (lt_W Hf.out.y) Hi.out) ?_
  simp only [Act.put, List.setIfInBounds_toArray, List.set_cons_zero, List.set_cons_succ]
  rw [show fmul f.y (finv f.z) = flY f from rfl]
  repeat
    (apply head_pure rfl rfl rfl
     case h => (intro w1; go_simp; rfl)
     simp only [Act.put, List.setIfInBounds_toArray, List.set_cons_zero, List.set_cons_succ])
  refine head_nil ?_
  intro w3 hC _
  replace hw_w0 := below_tr hw_w0 hC
  replace hR := keep hC (hp_drew hR)
  clear hC
  refine wpList_storeBlk 8 rfl rfl rfl rfl hR rfl rfl (by kernel_rfl) (by kernel_rfl) ?_
  intro w4 s4
  simp only [Act.put]
  go_wp2_with fail
  exact bodyPost_ret (results_blk Try.results39 rfl s4.at_ Try.underlying28 rfl (by kernel_rfl)) rfl ⟨rfl, s4.below hw_w0 (by omega)⟩
set_option maxHeartbeats 1000000 in
theorem plus_any (f g : T3) (d : Nat) (w : World) (hf : f.ok) (hg : g.ok) (hd : d < p) :
    Calls Try.prog 40 #[f.v, g.v, num d] w fun e w' => e = .returned (plus3 d f g).v ∧ Below w.heap.size w w' := by
  have Hf := Lib.hid hf
  have Hg := Lib.hid hg
  have Hd := Lib.hid (lt_W hd)
  clear hf hg hd
  go_enter Try.func40, Try.ntmps40
  go_wp2_with fail
  obtain ⟨w0, hq_w0⟩ : ∃ w0, ((((w.alloc (.cells #[.int .u64 (wd (f.x) 0), .int .u64 (wd (f.x) 1), .int .u64 (wd (f.x) 2), .int .u64 (wd (f.x) 3), .int .u64 (wd (f.y) 0), .int .u64 (wd (f.y) 1), .int .u64 (wd (f.y) 2), .int .u64 (wd (f.y) 3), .int .u64 (wd (f.z) 0), .int .u64 (wd (f.z) 1), .int .u64 (wd (f.z) 2), .int .u64 (wd (f.z) 3)] 68)).alloc (.cells #[.int .u64 (wd (g.x) 0), .int .u64 (wd (g.x) 1), .int .u64 (wd (g.x) 2), .int .u64 (wd (g.x) 3), .int .u64 (wd (g.y) 0), .int .u64 (wd (g.y) 1), .int .u64 (wd (g.y) 2), .int .u64 (wd (g.y) 3), .int .u64 (wd (g.z) 0), .int .u64 (wd (g.z) 1), .int .u64 (wd (g.z) 2), .int .u64 (wd (g.z) 3)] 68)).alloc (.cells #[.int .u64 (wd d 0), .int .u64 (wd d 1), .int .u64 (wd d 2), .int .u64 (wd d 3)] 26)).alloc (.cells #[.int .u64 0, .int .u64 0, .int .u64 0, .int .u64 0, .int .u64 0, .int .u64 0, .int .u64 0, .int .u64 0, .int .u64 0, .int .u64 0, .int .u64 0, .int .u64 0] 68)) = w0 := ⟨_, rfl⟩
  have hx : w0.heap[w.heap.size]? = some (.cells #[.int .u64 (wd (f.x) 0), .int .u64 (wd (f.x) 1), .int .u64 (wd (f.x) 2), .int .u64 (wd (f.x) 3), .int .u64 (wd (f.y) 0), .int .u64 (wd (f.y) 1), .int .u64 (wd (f.y) 2), .int .u64 (wd (f.y) 3), .int .u64 (wd (f.z) 0), .int .u64 (wd (f.z) 1), .int .u64 (wd (f.z) 2), .int .u64 (wd (f.z) 3)] 68) := by rw [← hq_w0]; exact hp_old _ (hp_old _ (hp_old _ (hp_new _ (by simp))))
  have hy : w0.heap[w.heap.size + 1]? = some (.cells #[.int .u64 (wd (g.x) 0), .int .u64 (wd (g.x) 1), .int .u64 (wd (g.x) 2), .int .u64 (wd (g.x) 3), .int .u64 (wd (g.y) 0), .int .u64 (wd (g.y) 1), .int .u64 (wd (g.y) 2), .int .u64 (wd (g.y) 3), .int .u64 (wd (g.z) 0), .int .u64 (wd (g.z) 1), .int .u64 (wd (g.z) 2), .int .u64 (wd (g.z) 3)] 68) := by rw [← hq_w0]; exact hp_old _ (hp_old _ (hp_new _ (by simp)))
  have hd : w0.heap[w.heap.size + 1 + 1]? = some (.cells #[.int .u64 (wd d 0), .int .u64 (wd d 1), .int .u64 (wd d 2), .int .u64 (wd d 3)] 26) := by rw [← hq_w0]; exact hp_old _ (hp_new _ (by simp))
  have hz : w0.heap[w.heap.size + 1 + 1 + 1]? = some (.cells #[.int .u64 0, .int .u64 0, .int .u64 0, .int .u64 0, .int .u64 0, .int .u64 0, .int .u64 0, .int .u64 0, .int .u64 0, .int .u64 0, .int .u64 0, .int .u64 0] 68) := by rw [← hq_w0]; exact hp_new _ (by simp)
  have hs_w0 : w0.heap.size = w.heap.size + 4 := by rw [← hq_w0]; simp
  have hw_w0 : Below w.heap.size w w0 := by rw [← hq_w0]; exact ((((Below.refl w.heap.size w).alloc (Nat.le_refl _) _).alloc (by simp) _).alloc (by simp; omega) _).alloc (by simp; omega) _
  rw [hq_w0]
  clear hq_w0
  clear hs_w0
  have cx := cell_of hx
  have cy := cell_of hy
  go_wp2_with fail
  refine (rmulf_any f.z g.z _ (lt_W Hf.out.z) (lt_W Hg.out.z)).mono ?_
  rw [show fmul f.z g.z = plA f g from rfl]
  rintro e w1 ⟨rfl, hb⟩
  clear cx cy
  replace hw_w0 := below_tr' hw_w0 hb
  replace hx := keep hb hx
  replace hy := keep hb hy
  replace hd := keep hb hd
  replace hz := keep hb hz
  clear hb
  go_wp2_with fail
  have lA := Go.Mono.lt_of_some hz
  obtain ⟨w2, hq_w2⟩ : ∃ w2, (w1.alloc (.cells #[.int .u64 (wd (plA f g) 0), .int .u64 (wd (plA f g) 1), .int .u64 (wd (plA f g) 2), .int .u64 (wd (plA f g) 3)] 26)) = w2 := ⟨_, rfl⟩
  have hA : w2.heap[w1.heap.size]? = some (.cells #[.int .u64 (wd (plA f g) 0), .int .u64 (wd (plA f g) 1), .int .u64 (wd (plA f g) 2), .int .u64 (wd (plA f g) 3)] 26) := by rw [← hq_w2]; exact hp_new _ (by simp)
  have hs_w2 : w2.heap.size = w1.heap.size + 1 := by rw [← hq_w2]; simp
  have hw_w2 : Below w1.heap.size w1 w2 := by rw [← hq_w2]; exact (Below.refl w1.heap.size w1).alloc (Nat.le_refl _) _
  rw [hq_w2]
  clear hq_w2
  replace hw_w0 := below_tr' hw_w0 hw_w2
  replace hx := keep hw_w2 hx
  replace hy := keep hw_w2 hy
  replace hd := keep hw_w2 hd
  replace hz := keep hw_w2 hz
  clear hw_w2
  clear hs_w2
  generalize w1.heap.size = bA at *
  have cA := cell4 hA
  have HA := Lib.hid (lt_W (fmul_lt f.z g.z))
  rw [show fmul f.z g.z = plA f g from rfl] at HA
  go_wp2_with fail
  refine (rmulf_any (plA f g) (plA f g) _ HA.out HA.out).mono ?_
  rw [show fmul (plA f g) (plA f g) = plB f g from rfl]
  rintro e w3 ⟨rfl, hb⟩
  clear cA
  replace hw_w0 := below_tr' hw_w0 hb
  replace hx := keep hb hx
  replace hy := keep hb hy
  replace hd := keep hb hd
  replace hz := keep hb hz
  replace hA := keep hb hA
  clear hb
  go_wp2_with fail
  have lB := Go.Mono.lt_of_some hA
  obtain ⟨w4, hq_w4⟩ : ∃ w4, (w3.alloc (.cells #[.int .u64 (wd (plB f g) 0), .int .u64 (wd (plB f g) 1), .int .u64 (wd (plB f g) 2), .int .u64 (wd (plB f g) 3)] 26)) = w4 := ⟨_, rfl⟩
  have hB : w4.heap[w3.heap.size]? = some (.cells #[.int .u64 (wd (plB f g) 0), .int .u64 (wd (plB f g) 1), .int .u64 (wd (plB f g) 2), .int .u64 (wd (plB f g) 3)] 26) := by rw [← hq_w4]; exact hp_new _ (by simp)
  have hs_w4 : w4.heap.size = w3.heap.size + 1 := by rw [← hq_w4]; simp
  have hw_w4 : Below w3.heap.size w3 w4 := by rw [← hq_w4]; exact (Below.refl w3.heap.size w3).alloc (Nat.le_refl _) _
  rw [hq_w4]
  clear hq_w4
  replace hw_w0 := below_tr' hw_w0 hw_w4
  replace hx := keep hw_w4 hx
  replace hy := keep hw_w4 hy
  replace hd := keep hw_w4 hd
  replace hz := keep hw_w4 hz
  replace hA := keep hw_w4 hA
  clear hw_w4
  clear hs_w4
  generalize w3.heap.size = bB at *
  have lz := Go.Mono.lt_of_some (hp_drew hB)
  refine wp_region_mono 10 12 [] (fun _ => .cells #[.int .u64 0, .int .u64 0, .int .u64 0, .int .u64 0] 26) (by kernel_rfl) (by kernel_rfl) (fun _ _ _ _ _ h => h) ?_
  simp only [List.take_succ_cons, List.take_zero, List.drop_succ_cons, List.drop_zero]
  repeat (first
    | (apply head_pure rfl rfl rfl
       case h => (intro w1; go_simp; rfl)
       simp only [Act.put, List.setIfInBounds_toArray, List.set_cons_zero, List.set_cons_succ])
    | (apply head_val rfl rfl rfl rfl
       case h => (intro w1 hC; have cx := cell_of (keep hC (hp_drew hx)); have cy := cell_of (keep hC (hp_drew hy)); clear hC; go_simp; rfl)
       simp only [Act.put, List.setIfInBounds_toArray, List.set_cons_zero, List.set_cons_succ]))
  refine head_call rfl rfl rfl rfl (fun w1 hC => by first | (go_simp; done) | (go_simp; rfl)) (fun w1 hC => rmulf_any f.x g.x w1 (lt_W Hf.out.x) (lt_W Hg.out.x)) ?_
  simp only [Act.put, List.setIfInBounds_toArray, List.set_cons_zero, List.set_cons_succ]
  rw [show fmul f.x g.x = plC f g from rfl]
  repeat (first
    | (apply head_pure rfl rfl rfl
       case h => (intro w1; go_simp; rfl)
       simp only [Act.put, List.setIfInBounds_toArray, List.set_cons_zero, List.set_cons_succ])
    | (apply head_val rfl rfl rfl rfl
       case h => (intro w1 hC; have cx := cell_of (keep hC (hp_drew hx)); have cy := cell_of (keep hC (hp_drew hy)); clear hC; go_simp; rfl)
       simp only [Act.put, List.setIfInBounds_toArray, List.set_cons_zero, List.set_cons_succ]))
  refine head_call rfl rfl rfl rfl (fun w1 hC => by first | (go_simp; done) | (go_simp; rfl)) (fun w1 hC => rmulf_any f.y g.y w1 (lt_W Hf.out.y) (lt_W Hg.out.y)) ?_
  simp only [Act.put, List.setIfInBounds_toArray, List.set_cons_zero, List.set_cons_succ]
  rw [show fmul f.y g.y = plE f g from rfl]
  refine head_alloc rfl rfl rfl rfl (fun w1 => by first | (go_simp; done) | (go_simp; rfl)) (fun bC hbC => ?_)
  simp only [Act.put, List.setIfInBounds_toArray, List.set_cons_zero, List.set_cons_succ]
  refine head_alloc rfl rfl rfl rfl (fun w1 => by first | (go_simp; done) | (go_simp; rfl)) (fun bE hbE => ?_)
  simp only [Act.put, List.setIfInBounds_toArray, List.set_cons_zero, List.set_cons_succ]
  refine head_nil ?_
  intro w5 hC hown
  obtain ⟨hl_bC, hn_bC, hd_bC, hl_bE, hn_bE, hd_bE, -⟩ := hown
  replace hn_bC : w5.heap[bC]? = some (.cells #[.int .u64 0, .int .u64 0, .int .u64 0, .int .u64 0] 26) := hn_bC
  replace hl_bC : _ ≤ bC := hl_bC
  have ne_bE_bC : bE ≠ bC := hd_bC _ (List.Mem.head _)
  replace hn_bE : w5.heap[bE]? = some (.cells #[.int .u64 0, .int .u64 0, .int .u64 0, .int .u64 0] 26) := hn_bE
  replace hl_bE : _ ≤ bE := hl_bE
  clear hd_bC hd_bE
  have lC : bB < bC := by omega
  have lE : bB < bE := by omega
  clear lz hl_bC hl_bE hbC hbE
  replace hw_w0 := below_tr hw_w0 hC
  replace hx := keep hC (hp_drew hx)
  replace hy := keep hC (hp_drew hy)
  replace hd := keep hC (hp_drew hd)
  replace hz := keep hC (hp_drew hz)
  replace hA := keep hC (hp_drew hA)
  replace hB := keep hC (hp_drew hB)
  clear hC
  refine wpList_storeBlk 4 rfl rfl rfl rfl hn_bC rfl rfl (by kernel_rfl) (by kernel_rfl) ?_
  intro w6 s6
  simp only [Act.put]
  replace hw_w0 := s6.below hw_w0 (by omega)
  replace hx := s6.other hx (by omega)
  replace hy := s6.other hy (by omega)
  replace hd := s6.other hd (by omega)
  replace hz := s6.other hz (by omega)
  replace hA := s6.other hA (by omega)
  replace hB := s6.other hB (by omega)
  replace hn_bE := s6.other hn_bE (by omega)
  replace hn_bC := s6.at_
  clear s6
  refine wpList_storeBlk 4 rfl rfl rfl rfl hn_bE rfl rfl (by kernel_rfl) (by kernel_rfl) ?_
  intro w7 s7
  simp only [Act.put]
  replace hw_w0 := s7.below hw_w0 (by omega)
  replace hx := s7.other hx (by omega)
  replace hy := s7.other hy (by omega)
  replace hd := s7.other hd (by omega)
  replace hz := s7.other hz (by omega)
  replace hA := s7.other hA (by omega)
  replace hB := s7.other hB (by omega)
  replace hn_bC := s7.other hn_bC (by omega)
  replace hn_bE := s7.at_
  clear s7
  have HC : plC f g < W ^ 4 := lt_W (fmul_lt _ _)
  have HE : plE f g < W ^ 4 := lt_W (fmul_lt _ _)
  have HC := Lib.hid HC
  have HE := Lib.hid HE
  go_wp2_with fail
  have lz := Go.Mono.lt_of_some (hp_drew hz)
  refine wp_region_mono 5 6 [] (fun _ => .cells #[.int .u64 0, .int .u64 0, .int .u64 0, .int .u64 0] 26) (by kernel_rfl) (by kernel_rfl) (fun _ _ _ _ _ h => h) ?_
  simp only [List.take_succ_cons, List.take_zero, List.drop_succ_cons, List.drop_zero]
  repeat (first
    | (apply head_pure rfl rfl rfl
       case h => (intro w1; go_simp; rfl)
       simp only [Act.put, List.setIfInBounds_toArray, List.set_cons_zero, List.set_cons_succ])
    | (apply head_val rfl rfl rfl rfl
       case h => (intro w1 hC; have cd := cell4 (keep hC (hp_drew hd)); have cc := cell4 (keep hC (hp_drew hn_bC)); have ce := cell4 (keep hC (hp_drew hn_bE)); clear hC; go_simp; rfl)
       simp only [Act.put, List.setIfInBounds_toArray, List.set_cons_zero, List.set_cons_succ]))
  refine head_call rfl rfl rfl rfl (fun w1 hC => by first | (go_simp; done) | (go_simp; rfl)) (fun w1 hC => rmulf_any (plC f g) (plE f g) w1 HC.out HE.out) ?_
  simp only [Act.put, List.setIfInBounds_toArray, List.set_cons_zero, List.set_cons_succ]
  refine head_call rfl rfl rfl rfl (fun w1 hC => by first | (go_simp; done) | (go_simp; rfl)) (fun w1 hC => rmulf_any d (fmul (plC f g) (plE f g)) w1 Hd.out (lt_W (fmul_lt _ _))) ?_
  simp only [Act.put, List.setIfInBounds_toArray, List.set_cons_zero, List.set_cons_succ]
  rw [show fmul d (fmul (plC f g) (plE f g)) = plF d f g from rfl]
  refine head_alloc rfl rfl rfl rfl (fun w1 => by first | (go_simp; done) | (go_simp; rfl)) (fun bF hbF => ?_)
  simp only [Act.put, List.setIfInBounds_toArray, List.set_cons_zero, List.set_cons_succ]
  have lzc := Go.Mono.lt_of_some (hp_drew hn_bC)
  have lze := Go.Mono.lt_of_some (hp_drew hn_bE)
  refine head_nil ?_
  intro w8 hC hown
  obtain ⟨hl_bF, hn_bF, hd_bF, -⟩ := hown
  replace hn_bF : w8.heap[bF]? = some (.cells #[.int .u64 0, .int .u64 0, .int .u64 0, .int .u64 0] 26) := hn_bF
  replace hl_bF : _ ≤ bF := hl_bF
  clear hd_bF
  have lF : w.heap.size + 3 < bF := by omega
  have lFc : bC < bF := by omega
  have lFe : bE < bF := by omega
  clear lz lzc lze hl_bF hbF hd
  replace hw_w0 := below_tr hw_w0 hC
  replace hx := keep hC (hp_drew hx)
  replace hy := keep hC (hp_drew hy)
  replace hz := keep hC (hp_drew hz)
  replace hA := keep hC (hp_drew hA)
  replace hB := keep hC (hp_drew hB)
  replace hn_bC := keep hC (hp_drew hn_bC)
  replace hn_bE := keep hC (hp_drew hn_bE)
  clear hC
  have lFa : bA < bF := by omega
  refine wpList_storeBlk 4 rfl rfl rfl rfl hn_bF rfl rfl (by kernel_rfl) (by kernel_rfl) ?_
  intro w9 s9
  simp only [Act.put]
  replace hw_w0 := s9.below hw_w0 (by omega)
  replace hx := s9.other hx (by omega)
  replace hy := s9.other hy (by omega)
  replace hz := s9.other hz (by omega)
  replace hA := s9.other hA (by omega)
  replace hB := s9.other hB (by omega)
  replace hn_bC := s9.other hn_bC (by omega)
  replace hn_bE := s9.other hn_bE (by omega)
  replace hn_bF := s9.at_
  clear s9
  have HB : plB f g < W ^ 4 := lt_W (fmul_lt _ _)
  have HF : plF d f g < W ^ 4 := lt_W (fmul_lt _ _)
  have HB := Lib.hid HB
  have HF := Lib.hid HF
  go_wp2_with fail
  have lz := Go.Mono.lt_of_some (hp_drew hn_bF)
  refine wp_region_mono 6 8 [] (fun _ => .cells #[.int .u64 0, .int .u64 0, .int .u64 0, .int .u64 0] 26) (by kernel_rfl) (by kernel_rfl) (fun _ _ _ _ _ h => h) ?_
  simp only [List.take_succ_cons, List.take_zero, List.drop_succ_cons, List.drop_zero]
  repeat (first
    | (apply head_pure rfl rfl rfl
       case h => (intro w1; go_simp; rfl)
       simp only [Act.put, List.setIfInBounds_toArray, List.set_cons_zero, List.set_cons_succ])
    | (apply head_val rfl rfl rfl rfl
       case h => (intro w1 hC; have cb := cell4 (keep hC (hp_drew hB)); have cf := cell4 (keep hC (hp_drew hn_bF)); clear hC; go_simp; rfl)
       simp only [Act.put, List.setIfInBounds_toArray, List.set_cons_zero, List.set_cons_succ]))
  refine head_call rfl rfl rfl rfl (fun w1 hC => by first | (go_simp; done) | (go_simp; rfl)) (fun w1 hC => rsub_any (plB f g) (plF d f g) w1 HB.out HF.out) ?_
  simp only [Act.put, List.setIfInBounds_toArray, List.set_cons_zero, List.set_cons_succ]
  rw [show fsub (plB f g) (plF d f g) = plG d f g from rfl]
  repeat (first
    | (apply head_pure rfl rfl rfl
       case h => (intro w1; go_simp; rfl)
       simp only [Act.put, List.setIfInBounds_toArray, List.set_cons_zero, List.set_cons_succ])
    | (apply head_val rfl rfl rfl rfl
       case h => (intro w1 hC; have cb := cell4 (keep hC (hp_drew hB)); have cf := cell4 (keep hC (hp_drew hn_bF)); clear hC; go_simp; rfl)
       simp only [Act.put, List.setIfInBounds_toArray, List.set_cons_zero, List.set_cons_succ]))
  refine head_call rfl rfl rfl rfl (fun w1 hC => by first | (go_simp; done) | (go_simp; rfl)) (fun w1 hC => radd_any (plB f g) (plF d f g) w1 HB.out HF.out) ?_
  simp only [Act.put, List.setIfInBounds_toArray, List.set_cons_zero, List.set_cons_succ]
  rw [show fadd (plB f g) (plF d f g) = plH d f g from rfl]
  refine head_alloc rfl rfl rfl rfl (fun w1 => by first | (go_simp; done) | (go_simp; rfl)) (fun bG hbG => ?_)
  simp only [Act.put, List.setIfInBounds_toArray, List.set_cons_zero, List.set_cons_succ]
  refine head_alloc rfl rfl rfl rfl (fun w1 => by first | (go_simp; done) | (go_simp; rfl)) (fun bH hbH => ?_)
  simp only [Act.put, List.setIfInBounds_toArray, List.set_cons_zero, List.set_cons_succ]
  refine head_nil ?_
  intro w10 hC hown
  obtain ⟨hl_bG, hn_bG, hd_bG, hl_bH, hn_bH, hd_bH, -⟩ := hown
  replace hn_bG : w10.heap[bG]? = some (.cells #[.int .u64 0, .int .u64 0, .int .u64 0, .int .u64 0] 26) := hn_bG
  replace hl_bG : _ ≤ bG := hl_bG
  have ne_bH_bG : bH ≠ bG := hd_bG _ (List.Mem.head _)
  replace hn_bH : w10.heap[bH]? = some (.cells #[.int .u64 0, .int .u64 0, .int .u64 0, .int .u64 0] 26) := hn_bH
  replace hl_bH : _ ≤ bH := hl_bH
  clear hd_bG hd_bH
  have lG : bF < bG := by omega
  have lH : bF < bH := by omega
  clear lz hl_bG hl_bH hbG hbH hB hn_bF
  replace hw_w0 := below_tr hw_w0 hC
  replace hx := keep hC (hp_drew hx)
  replace hy := keep hC (hp_drew hy)
  replace hz := keep hC (hp_drew hz)
  replace hA := keep hC (hp_drew hA)
  replace hn_bC := keep hC (hp_drew hn_bC)
  replace hn_bE := keep hC (hp_drew hn_bE)
  clear hC
  refine wpList_storeBlk 4 rfl rfl rfl rfl hn_bG rfl rfl (by kernel_rfl) (by kernel_rfl) ?_
  intro w11 s11
  simp only [Act.put]
  replace hw_w0 := s11.below hw_w0 (by omega)
  replace hx := s11.other hx (by omega)
  replace hy := s11.other hy (by omega)
  replace hz := s11.other hz (by omega)
  replace hA := s11.other hA (by omega)
  replace hn_bC := s11.other hn_bC (by omega)
  replace hn_bE := s11.other hn_bE (by omega)
  replace hn_bH := s11.other hn_bH (by omega)
  replace hn_bG := s11.at_
  clear s11
  refine wpList_storeBlk 4 rfl rfl rfl rfl hn_bH rfl rfl (by kernel_rfl) (by kernel_rfl) ?_
  intro w12 s12
  simp only [Act.put]
  replace hw_w0 := s12.below hw_w0 (by omega)
  replace hx := s12.other hx (by omega)
  replace hy := s12.other hy (by omega)
  replace hz := s12.other hz (by omega)
  replace hA := s12.other hA (by omega)
  replace hn_bC := s12.other hn_bC (by omega)
  replace hn_bE := s12.other hn_bE (by omega)
  replace hn_bG := s12.other hn_bG (by omega)
  replace hn_bH := s12.at_
  clear s12
  go_wp2_with fail
  have lzg := Go.Mono.lt_of_some (hp_drew hn_bG)
  have lzh := Go.Mono.lt_of_some (hp_drew hn_bH)
  refine wp_region_mono 15 16 [] (fun _ => .cells #[.int .u64 0, .int .u64 0, .int .u64 0, .int .u64 0] 26) (by kernel_rfl) (by kernel_rfl) (fun _ _ _ _ _ h => h) ?_
  simp only [List.take_succ_cons, List.take_zero, List.drop_succ_cons, List.drop_zero]
  repeat (first
    | (apply head_pure rfl rfl rfl
       case h => (intro w1; go_simp; rfl)
       simp only [Act.put, List.setIfInBounds_toArray, List.set_cons_zero, List.set_cons_succ])
    | (apply head_val rfl rfl rfl rfl
       case h => (intro w1 hC; have cx := cell_of (keep hC (hp_drew hx)); have cy := cell_of (keep hC (hp_drew hy)); clear hC; go_simp; rfl)
       simp only [Act.put, List.setIfInBounds_toArray, List.set_cons_zero, List.set_cons_succ]))
  refine head_call rfl rfl rfl rfl (fun w1 hC => by first | (go_simp; done) | (go_simp; rfl)) (fun w1 hC => radd_any f.x f.y w1 (lt_W Hf.out.x) (lt_W Hf.out.y)) ?_
  simp only [Act.put, List.setIfInBounds_toArray, List.set_cons_zero, List.set_cons_succ]
  repeat (first
    | (apply head_pure rfl rfl rfl
       case h => (intro w1; go_simp; rfl)
       simp only [Act.put, List.setIfInBounds_toArray, List.set_cons_zero, List.set_cons_succ])
    | (apply head_val rfl rfl rfl rfl
       case h => (intro w1 hC; have cx := cell_of (keep hC (hp_drew hx)); have cy := cell_of (keep hC (hp_drew hy)); clear hC; go_simp; rfl)
       simp only [Act.put, List.setIfInBounds_toArray, List.set_cons_zero, List.set_cons_succ]))
  refine head_call rfl rfl rfl rfl (fun w1 hC => by first | (go_simp; done) | (go_simp; rfl)) (fun w1 hC => radd_any g.x g.y w1 (lt_W Hg.out.x) (lt_W Hg.out.y)) ?_
  simp only [Act.put, List.setIfInBounds_toArray, List.set_cons_zero, List.set_cons_succ]
  refine head_call rfl rfl rfl rfl (fun w1 hC => by first | (go_simp; done) | (go_simp; rfl)) (fun w1 hC => rmulf_any (fadd f.x f.y) (fadd g.x g.y) w1 (lt_W (fadd_lt _ _)) (lt_W (fadd_lt _ _))) ?_
  simp only [Act.put, List.setIfInBounds_toArray, List.set_cons_zero, List.set_cons_succ]
  repeat (first
    | (apply head_pure rfl rfl rfl
       case h => (intro w1; go_simp; rfl)
       simp only [Act.put, List.setIfInBounds_toArray, List.set_cons_zero, List.set_cons_succ])
    | (apply head_val rfl rfl rfl rfl
       case h => (intro w1 hC; have cc := cell4 (keep hC (hp_drew hn_bC)); have ce := cell4 (keep hC (hp_drew hn_bE)); clear hC; go_simp; rfl)
       simp only [Act.put, List.setIfInBounds_toArray, List.set_cons_zero, List.set_cons_succ]))
  refine head_call rfl rfl rfl rfl (fun w1 hC => by first | (go_simp; done) | (go_simp; rfl)) (fun w1 hC => rsub_any (fmul (fadd f.x f.y) (fadd g.x g.y)) (plC f g) w1 (lt_W (fmul_lt _ _)) HC.out) ?_
  simp only [Act.put, List.setIfInBounds_toArray, List.set_cons_zero, List.set_cons_succ]
  repeat (first
    | (apply head_pure rfl rfl rfl
       case h => (intro w1; go_simp; rfl)
       simp only [Act.put, List.setIfInBounds_toArray, List.set_cons_zero, List.set_cons_succ])
    | (apply head_val rfl rfl rfl rfl
       case h => (intro w1 hC; have cc := cell4 (keep hC (hp_drew hn_bC)); have ce := cell4 (keep hC (hp_drew hn_bE)); clear hC; go_simp; rfl)
       simp only [Act.put, List.setIfInBounds_toArray, List.set_cons_zero, List.set_cons_succ]))
  refine head_call rfl rfl rfl rfl (fun w1 hC => by first | (go_simp; done) | (go_simp; rfl)) (fun w1 hC => rsub_any (fsub (fmul (fadd f.x f.y) (fadd g.x g.y)) (plC f g)) (plE f g) w1 (lt_W (fsub_lt _ _)) HE.out) ?_
  simp only [Act.put, List.setIfInBounds_toArray, List.set_cons_zero, List.set_cons_succ]
  rw [show fsub (fsub (fmul (fadd f.x f.y) (fadd g.x g.y)) (plC f g)) (plE f g) = plX f g from rfl]
  refine head_alloc rfl rfl rfl rfl (fun w1 => by first | (go_simp; done) | (go_simp; rfl)) (fun bX hbX => ?_)
  simp only [Act.put, List.setIfInBounds_toArray, List.set_cons_zero, List.set_cons_succ]
  refine head_nil ?_
  intro w13 hC hown
  obtain ⟨hl_bX, hn_bX, hd_bX, -⟩ := hown
  replace hn_bX : w13.heap[bX]? = some (.cells #[.int .u64 0, .int .u64 0, .int .u64 0, .int .u64 0] 26) := hn_bX
  replace hl_bX : _ ≤ bX := hl_bX
  clear hd_bX
  have lXg : bG < bX := by omega
  have lXh : bH < bX := by omega
  clear lzg lzh hl_bX hbX hx hy
  replace hw_w0 := below_tr hw_w0 hC
  replace hz := keep hC (hp_drew hz)
  replace hA := keep hC (hp_drew hA)
  replace hn_bC := keep hC (hp_drew hn_bC)
  replace hn_bE := keep hC (hp_drew hn_bE)
  replace hn_bG := keep hC (hp_drew hn_bG)
  replace hn_bH := keep hC (hp_drew hn_bH)
  clear hC
  refine wpList_storeBlk 4 rfl rfl rfl rfl hn_bX rfl rfl (by kernel_rfl) (by kernel_rfl) ?_
  intro w14 s14
  simp only [Act.put]
  replace hw_w0 := s14.below hw_w0 (by omega)
  replace hz := s14.other hz (by omega)
  replace hA := s14.other hA (by omega)
  replace hn_bC := s14.other hn_bC (by omega)
  replace hn_bE := s14.other hn_bE (by omega)
  replace hn_bG := s14.other hn_bG (by omega)
  replace hn_bH := s14.other hn_bH (by omega)
  replace hn_bX := s14.at_
  clear s14
  have HG : plG d f g < W ^ 4 := lt_W (fsub_lt _ _)
  have HH : plH d f g < W ^ 4 := lt_W (fadd_lt _ _)
  have HX : plX f g < W ^ 4 := lt_W (fsub_lt _ _)
  have HG := Lib.hid HG
  have HH := Lib.hid HH
  have HX := Lib.hid HX
  go_wp2_with fail
  refine wp_region_mono 16 16 [] (fun _ => default) (by kernel_rfl) (by kernel_rfl) (fun _ _ _ _ _ h => h) ?_
  simp only [List.take_succ_cons, List.take_zero, List.drop_succ_cons, List.drop_zero]
  repeat (first
    | (apply head_pure rfl rfl rfl
       case h => (intro w1; go_simp; rfl)
       simp only [Act.put, List.setIfInBounds_toArray, List.set_cons_zero, List.set_cons_succ])
    | (apply head_val rfl rfl rfl rfl
       case h => (intro w1 hC; have ca := cell4 (keep hC (hp_drew hA)); have cg := cell4 (keep hC (hp_drew hn_bG)); clear hC; go_simp; rfl)
       simp only [Act.put, List.setIfInBounds_toArray, List.set_cons_zero, List.set_cons_succ]))
  refine head_call rfl rfl rfl rfl (fun w1 hC => by first | (go_simp; done) | (go_simp; rfl)) (fun w1 hC => rmulf_any (plA f g) (plG d f g) w1 HA.out HG.out) ?_
  simp only [Act.put, List.setIfInBounds_toArray, List.set_cons_zero, List.set_cons_succ]
  repeat (first
    | (apply head_pure rfl rfl rfl
       case h => (intro w1; go_simp; rfl)
       simp only [Act.put, List.setIfInBounds_toArray, List.set_cons_zero, List.set_cons_succ])
    | (apply head_val rfl rfl rfl rfl
       case h => (intro w1 hC; have cx := cell4 (keep hC (hp_drew hn_bX)); clear hC; go_simp; rfl)
       simp only [Act.put, List.setIfInBounds_toArray, List.set_cons_zero, List.set_cons_succ]))
  refine head_call rfl rfl rfl rfl (fun w1 hC => by first | (go_simp; done) | (go_simp; rfl)) (fun w1 hC => rmulf_any (fmul (plA f g) (plG d f g)) (plX f g) w1 (lt_W (fmul_lt _ _)) HX.out) ?_
  simp only [Act.put, List.setIfInBounds_toArray, List.set_cons_zero, List.set_cons_succ]
  rw [show fmul (fmul (plA f g) (plG d f g)) (plX f g) = plRX d f g from rfl]
  repeat (first
    | (apply head_pure rfl rfl rfl
       case h => (intro w1; go_simp; rfl)
       simp only [Act.put, List.setIfInBounds_toArray, List.set_cons_zero, List.set_cons_succ])
    | (apply head_val rfl rfl rfl rfl
       case h => (intro w1 hC; have ca := cell4 (keep hC (hp_drew hA)); have ch := cell4 (keep hC (hp_drew hn_bH)); clear hC; go_simp; rfl)
       simp only [Act.put, List.setIfInBounds_toArray, List.set_cons_zero, List.set_cons_succ]))
  refine head_call rfl rfl rfl rfl (fun w1 hC => by first | (go_simp; done) | (go_simp; rfl)) (fun w1 hC => rmulf_any (plA f g) (plH d f g) w1 HA.out HH.out) ?_
  simp only [Act.put, List.setIfInBounds_toArray, List.set_cons_zero, List.set_cons_succ]
  repeat (first
    | (apply head_pure rfl rfl rfl
       case h => (intro w1; go_simp; rfl)
       simp only [Act.put, List.setIfInBounds_toArray, List.set_cons_zero, List.set_cons_succ])
    | (apply head_val rfl rfl rfl rfl
       case h => (intro w1 hC; have cc := cell4 (keep hC (hp_drew hn_bC)); have ce := cell4 (keep hC (hp_drew hn_bE)); clear hC; go_simp; rfl)
       simp only [Act.put, List.setIfInBounds_toArray, List.set_cons_zero, List.set_cons_succ]))
  refine head_call rfl rfl rfl rfl (fun w1 hC => by first | (go_simp; done) | (go_simp; rfl)) (fun w1 hC => radd_any (plC f g) (plE f g) w1 HC.out HE.out) ?_
  simp only [Act.put, List.setIfInBounds_toArray, List.set_cons_zero, List.set_cons_succ]
  refine head_call rfl rfl rfl rfl (fun w1 hC => by first | (go_simp; done) | (go_simp; rfl)) (fun w1 hC => rmulf_any (fmul (plA f g) (plH d f g)) (fadd (plC f g) (plE f g)) w1 (lt_W (fmul_lt _ _)) (lt_W (fadd_lt _ _))) ?_
  simp only [Act.put, List.setIfInBounds_toArray, List.set_cons_zero, List.set_cons_succ]
  rw [show fmul (fmul (plA f g) (plH d f g)) (fadd (plC f g) (plE f g)) = plRY d f g from rfl]
  repeat (first
    | (apply head_pure rfl rfl rfl
       case h => (intro w1; go_simp; rfl)
       simp only [Act.put, List.setIfInBounds_toArray, List.set_cons_zero, List.set_cons_succ])
    | (apply head_val rfl rfl rfl rfl
       case h => (intro w1 hC; have cg := cell4 (keep hC (hp_drew hn_bG)); have ch := cell4 (keep hC (hp_drew hn_bH)); clear hC; go_simp; rfl)
       simp only [Act.put, List.setIfInBounds_toArray, List.set_cons_zero, List.set_cons_succ]))
  refine head_call rfl rfl rfl rfl (fun w1 hC => by first | (go_simp; done) | (go_simp; rfl)) (fun w1 hC => rmulf_any (plG d f g) (plH d f g) w1 HG.out HH.out) ?_
  simp only [Act.put, List.setIfInBounds_toArray, List.set_cons_zero, List.set_cons_succ]
  rw [show fmul (plG d f g) (plH d f g) = plRZ d f g from rfl]
  repeat
    (apply head_pure rfl rfl rfl
     case h => (intro w1; go_simp; rfl)
     simp only [Act.put, List.setIfInBounds_toArray, List.set_cons_zero, List.set_cons_succ])
  refine head_nil ?_
  intro w15 hC _
  replace hw_w0 := below_tr hw_w0 hC
  replace hz := keep hC (hp_drew hz)
  clear hC
  refine wpList_storeBlk 12 rfl rfl rfl rfl hz rfl rfl (by kernel_rfl) (by kernel_rfl) ?_
  intro w16 s16
  simp only [Act.put]
  replace hw_w0 := s16.below hw_w0 (by omega)
  replace hz := s16.at_
  clear s16
  go_wp2_with fail
  exact bodyPost_ret (results_blk Try.results40 rfl hz Try.underlying68 rfl (by kernel_rfl)) rfl ⟨rfl, hw_w0⟩
end Go.Proofs.Ytdhaedjmlddjcaa
