/- A rule for regions whose order is drawn: a head of operations that only read, compute or call functions which leave all older memory as it was, then new variables, then a tail of stores in one order: one walk in the order of the text serves every order. No conditions beyond a Bool over the region that the kernel computes. -/
import Derived.StillTail
import Derived.Below
import Derived.Tactics2
import Derived.KernelRfl
namespace Go.Mono
open Go Go.RowKit
section
variable {P : Program} {ops : Array Oper} {md : Region.Mode} {C : World → Prop} {B : Nat} {cf : Nat → Obj} {late : List Nat} {Q' : Exit → Act → World → Prop}

/-- What an operation must come to in world w: the value v; older memory stays as it was. -/
def monoUpon (P : Program) (w : World) (v : Value) : Result Next → Prop
  | .ok (.value u) w' => w' = w ∧ u = v
  | .ok .skip w' => w' = w ∧ v = undef
  | .ok (.enter f args) w' => w' = w ∧ Calls P f args w (fun e w'' => e = .returned v ∧ Below w.heap.size w w'')
  | _ => False
def monoAt (P : Program) (o : Oper) (a : Act) (w : World) (v : Value) : Prop := monoUpon P w v ((execOp a.eval o).run P w)
/-- Operation i comes to v: in every world whatever if it may come up among the stores, else in every world of the class. -/
def StepAt (P : Program) (C : World → Prop) (late : List Nat) (i : Nat) (o : Oper) (a : Act) (v : Value) : Prop :=
  (late.contains i = true → ∀ w, (execOp a.eval o).run P w = .ok (.value v) w) ∧ (late.contains i = false → ∀ w, C w → monoAt P o a w v)
theorem StepAt.of_same {P : Program} {C : World → Prop} {late : List Nat} {i : Nat} {o : Oper} {a a' : Act} {v : Value} (h : StepAt P C late i o a v) (he : execOp a'.eval o = execOp a.eval o) : StepAt P C late i o a' v := by
  unfold StepAt monoAt at *
  rw [he]
  exact h
def isAlloc (o : Oper) : Bool := match o.op with | .alloc _ => true | _ => false
def allocAt (P : Program) (o : Oper) (a : Act) (c : Obj) : Prop :=
  ∀ w, (execOp a.eval o).run P w = .ok (.value (.pointer (some ⟨w.heap.size, 0, none⟩))) (w.alloc c)
def upd (β : Nat → Nat) (i b : Nat) : Nat → Nat := fun j => if j = i then b else β j
theorem upd_comm (β : Nat → Nat) {i j : Nat} (b c : Nat) (h : i ≠ j) : upd (upd β i b) j c = upd (upd β j c) i b := by
  funext k
  simp only [upd]
  by_cases h1 : k = i <;> by_cases h2 : k = j <;> simp [h1, h2] <;> omega

abbrev St := Act → (Nat → Nat) → Prop

/-- Operation i comes up. -/
def aOp (P : Program) (ops : Array Oper) (C : World → Prop) (B : Nat) (cf : Nat → Obj) (late : List Nat) (i : Nat) (K : St) : St := fun a β =>
  match ops[i]? with
  | none => K a β
  | some o =>
    if isAlloc o then o.guard = none ∧ allocAt P o a (cf i) ∧ ∀ b, B ≤ b → K (a.put o.dst (.pointer (some ⟨b, 0, none⟩))) (upd β i b)
    else if Region.wanted o (yielded ops a.tmps) then ∃ v, StepAt P C late i o a v ∧ K (a.put o.dst v) β else K (a.put o.dst undef) β

/-- What the new variables hold while the head runs. -/
def Holds (ops : Array Oper) (B : Nat) (cf : Nat → Obj) (n : Nat) (listed : Array Bool) (β : Nat → Nat) (w : World) : Prop :=
  ∀ i o, i < n → ops[i]? = some o → isAlloc o = true → listed.getD i false = true → B ≤ β i ∧ w.heap[β i]? = some (cf i) ∧
    ∀ j oj, j < n → j ≠ i → ops[j]? = some oj → isAlloc oj = true → listed.getD j false = true → β j ≠ β i

/-- Whatever order is picked from here on: the head's operations in every world of the class; from the first operation of the tail on, the whole of what is left. -/
def wpB (P : Program) (md : Region.Mode) (ops : Array Oper) (C : World → Prop) (B : Nat) (cf : Nat → Obj) (late : List Nat) (n : Nat) (Q' : Exit → Act → World → Prop) : Nat → Array Bool → St
  | 0, listed, a, β => Region.ready md ops listed = [] ∧ ∀ w, C w → Holds ops B cf n listed β w → Q' .normal a w
  | f + 1, listed, a, β => Region.ready md ops listed ≠ [] ∧ ∀ i ∈ Region.ready md ops listed,
      (i < n → aOp P ops C B cf late i (wpB P md ops C B cf late n Q' f (listed.setIfInBounds i true)) a β) ∧
      (n ≤ i → ∀ w, C w → Holds ops B cf n listed β w → wpOp P ops Q' i (wpAny P md ops Q' f (listed.setIfInBounds i true)) a w)

def Yld (P : Program) (ops : Array Oper) (C : World → Prop) (late : List Nat) (i : Nat) (o : Oper) (v : Value) (a : Act) : Prop :=
  (Region.wanted o (yielded ops a.tmps) = true ∧ StepAt P C late i o a v) ∨ (Region.wanted o (yielded ops a.tmps) = false ∧ v = undef)

theorem Yld.of_same {i : Nat} {o : Oper} {v : Value} {a a' : Act} (hy : Yld P ops C late i o v a) (he : execOp a'.eval o = execOp a.eval o)
    (hw : Region.wanted o (yielded ops a'.tmps) = Region.wanted o (yielded ops a.tmps)) : Yld P ops C late i o v a' := by
  unfold Yld at *
  rw [hw]
  exact hy.imp (fun h => ⟨h.1, h.2.of_same he⟩) id

theorem Yld.always {i : Nat} {o : Oper} {v : Value} {a : Act} (hy : Yld P ops C late i o v a) (hl : late.contains i = true) : Go.Yields P ops o v a :=
  hy.imp (fun h => ⟨h.1, h.2.1 hl⟩) id

theorem Yld.aOp {i : Nat} {o : Oper} {v : Value} {a : Act} {β : Nat → Nat} (hi : ops[i]? = some o) (hna : isAlloc o = false) (hy : Yld P ops C late i o v a) {K : St} (h : K (a.put o.dst v) β) :
    aOp P ops C B cf late i K a β := by
  unfold Mono.aOp
  simp only [hi, hna, Bool.false_eq_true, if_false]
  rcases hy with ⟨hw, hv⟩ | ⟨hw, rfl⟩
  · simp only [hw, if_true]; exact ⟨v, hv, h⟩
  · simp only [hw, Bool.false_eq_true, if_false]; exact h

theorem aOp_mono {i : Nat} {K K' : St} {a : Act} {β : Nat → Nat} (h : ∀ a β, K a β → K' a β) (hh : aOp P ops C B cf late i K a β) : aOp P ops C B cf late i K' a β := by
  unfold aOp at *
  split
  · rename_i ho; simp only [ho] at hh; exact h _ _ hh
  · rename_i o ho
    simp only [ho] at hh
    split
    · rename_i hal; simp only [hal, if_true] at hh; exact ⟨hh.1, hh.2.1, fun b hb => h _ _ (hh.2.2 b hb)⟩
    · rename_i hal
      simp only [hal, Bool.false_eq_true, if_false] at hh
      split
      · rename_i hw; simp only [hw, if_true] at hh; obtain ⟨v, h1, h2⟩ := hh; exact ⟨v, h1, h _ _ h2⟩
      · rename_i hw; simp only [hw] at hh; exact h _ _ hh

/-- An operation apart from oi: oi's value, put or not, makes no difference to it. -/
theorem aOp_put {i j : Nat} {oi oj : Oper} {v : Value} (hj : ops[j]? = some oj) (hap : oi.apart ops oj = true)
    (hsi : ∀ cs b, oi.op ≠ .select cs b) (hsj : ∀ cs b, oj.op ≠ .select cs b) {K : St} {a : Act} {β : Nat → Nat}
    (hy : Yld P ops C late i oi v a) (h : aOp P ops C B cf late j K (a.put oi.dst v) β) :
    aOp P ops C B cf late j (fun a' β' => Yld P ops C late i oi v a' ∧ K (a'.put oi.dst v) β') a β := by
  obtain ⟨h1, h2, h3⟩ := Oper.apart_spec hap
  have keep : ∀ (a : Act), Yld P ops C late i oi v a → ∀ u, Yld P ops C late i oi v (a.put oj.dst u) := fun a hy u =>
    hy.of_same (execOp_put oi hsi a oj.dst u h3) (wanted_put oi a oj.dst u h3)
  unfold aOp at *
  simp only [hj] at *
  rw [wanted_put oj a oi.dst v h1] at h
  split
  · rename_i hal
    simp only [hal, if_true] at h
    obtain ⟨hg, ha, hk⟩ := h
    refine ⟨hg, fun w => ?_, fun b hb => ⟨keep a hy _, ?_⟩⟩
    · have := ha w; rwa [execOp_put oj hsj a oi.dst v h1] at this
    · rw [← Act.put_comm a v _ h2]; exact hk b hb
  · rename_i hal
    simp only [hal, Bool.false_eq_true, if_false] at h
    split
    · rename_i hw
      simp only [hw, if_true] at h
      obtain ⟨u, hu, hn⟩ := h
      exact ⟨u, hu.of_same (execOp_put oj hsj a oi.dst v h1).symm, keep a hy u, by rw [← Act.put_comm a v u h2]; exact hn⟩
    · rename_i hw
      simp only [hw] at h
      exact ⟨keep a hy _, by rw [← Act.put_comm a v undef h2]; exact h⟩

theorem free_step {i j : Nat} {oi : Oper} {listed : Array Bool}
    (hfree : ∀ j oj, ops[j]? = some oj → j ≠ i → listed.getD j true = false → (∀ e ∈ oj.after, Region.binds md e = true → e.on ≠ i) → oi.apart ops oj = true) :
    ∀ k ok, ops[k]? = some ok → k ≠ i → (listed.setIfInBounds j true).getD k true = false → (∀ e ∈ ok.after, Region.binds md e = true → e.on ≠ i) → oi.apart ops ok = true := fun k ok hk hki hun hno => by
  refine hfree k ok hk hki ?_ hno
  by_cases hjk : j = k
  · subst hjk
    rcases Nat.lt_or_ge j listed.size with h' | h'
    · simp [h'] at hun
    · simp at hun
  · rw [getD_set_ne true hjk] at hun; exact hun

/-! ### The tail waits for all of the head that is not late -/
def sinkL (md : Region.Mode) (ops : Array Oper) (late : List Nat) (n : Nat) : Bool :=
  (List.range n).all fun i => late.contains i || (List.range (n + 1)).any fun j => decide (i < j) && !late.contains j && Region.waitsFor md ops j i

theorem tail_waits' {n : Nat} {listed : Array Bool} (hs : sinkL md ops late n = true) (hc : Region.chainB md ops n = true) (inv : HeadInv md ops n listed) :
    ∀ (d i : Nat), n - i = d → i < n → late.contains i = false → listed.getD i true = false → ∀ t, n ≤ t → t ∉ Region.ready md ops listed := by
  intro d
  induction d using Nat.strongRecOn with
  | _ d ih =>
    intro i hd hi hnl hun t ht hr
    obtain ⟨_, ot, hot, hall⟩ := mem_ready.1 hr
    have htlt : t < ops.size := (Array.getElem?_eq_some_iff.1 hot).1
    by_cases htn : t = n
    · subst htn
      have h1 := List.all_eq_true.1 hs i (List.mem_range.2 hi)
      rw [hnl, Bool.false_or] at h1
      obtain ⟨j, hj, hj2⟩ := List.any_eq_true.1 h1
      simp only [Bool.and_eq_true, decide_eq_true_eq, Bool.not_eq_true'] at hj2
      obtain ⟨oj, hoj, e, he, hb, hon⟩ := Region.waitsFor_spec hj2.2
      have hjle : j ≤ t := by have := List.mem_range.1 hj; omega
      by_cases hjt : j = t
      · subst hjt
        have : oj = ot := Option.some.inj (hoj.symm.trans hot)
        subst this
        have h2 := hall e he hb
        rw [hon, getD_both hun] at h2
        cases h2
      · cases hl : listed.getD j false with
        | true =>
          have h2 := inv.closed j oj hoj hl e he hb
          rw [hon, getD_both hun] at h2
          cases h2
        | false =>
          have hjs : j < listed.size := by rw [inv.size]; omega
          exact ih (t - j) (by omega) j rfl (by omega) hj2.1.2 (getD_in hjs hl) t (Nat.le_refl _) hr
    · have h1 := List.all_eq_true.1 hc t (List.mem_range.2 htlt)
      simp only [Bool.or_eq_true, decide_eq_true_eq] at h1
      rcases h1 with h1 | h1
      · omega
      · obtain ⟨o', ho', e, he, hb, hon⟩ := Region.waitsFor_spec h1
        have : o' = ot := Option.some.inj (ho'.symm.trans hot)
        subst this
        have h2 := hall e he hb
        rw [hon, getD_both (inv.tail (t - 1) (by omega) (by omega))] at h2
        cases h2

theorem lt_of_some {w : World} {b : Nat} {o : Obj} (h : w.heap[b]? = some o) : b < w.heap.size := (Array.getElem?_eq_some_iff.1 h).1

theorem Holds.below {n : Nat} {listed : Array Bool} {β : Nat → Nat} {w w' : World} (h : Holds ops B cf n listed β w) (hb : Below w.heap.size w w') : Holds ops B cf n listed β w' := fun i o hin hi hal hl => by
  obtain ⟨h1, h2, h3⟩ := h i o hin hi hal hl
  exact ⟨h1, by rw [hb.block _ (lt_of_some h2)]; exact h2, h3⟩

theorem Holds.list {n j : Nat} {oj : Oper} {listed : Array Bool} {β : Nat → Nat} {w : World} (h : Holds ops B cf n listed β w) (hj : ops[j]? = some oj) (hna : isAlloc oj = false) :
    Holds ops B cf n (listed.setIfInBounds j true) β w := fun i o hin hi hal hl => by
  have ne : ∀ k ok, ops[k]? = some ok → isAlloc ok = true → j ≠ k := fun k ok hk hkal e => by
    subst e
    rw [Option.some.inj (hj.symm.trans hk)] at hna
    rw [hkal] at hna; cases hna
  rw [getD_set_ne false (ne i o hi hal)] at hl
  obtain ⟨h1, h2, h3⟩ := h i o hin hi hal hl
  exact ⟨h1, h2, fun k ok hkn hki hk hkal hkl => h3 k ok hkn hki hk hkal (by rwa [getD_set_ne false (ne k ok hk hkal)] at hkl)⟩

theorem Holds.alloc {n j : Nat} {listed : Array Bool} {β : Nat → Nat} {w : World} (h : Holds ops B cf n listed β w) (hBw : B ≤ w.heap.size) :
    Holds ops B cf n (listed.setIfInBounds j true) (upd β j w.heap.size) (w.alloc (cf j)) := fun i o hin hi hal hl => by
  by_cases hij : i = j
  · subst hij
    refine ⟨by simp only [upd, if_true]; exact hBw, by simp only [upd, if_true]; exact Array.getElem?_push_size, fun k ok hkn hki hk hkal hkl => ?_⟩
    rw [getD_set_ne false (Ne.symm hki)] at hkl
    obtain ⟨_, h2, _⟩ := h k ok hkn hk hkal hkl
    have := lt_of_some h2
    simp only [upd, if_neg hki, if_true]
    omega
  · rw [getD_set_ne false (fun e => hij e.symm)] at hl
    obtain ⟨h1, h2, h3⟩ := h i o hin hi hal hl
    have hlt := lt_of_some h2
    refine ⟨by simp only [upd, if_neg hij]; exact h1, by simp only [upd, if_neg hij]; rw [Below.heap_alloc _ _ _ hlt]; exact h2, fun k ok hkn hki hk hkal hkl => ?_⟩
    by_cases hkj : k = j
    · subst hkj; simp only [upd, if_true, if_neg hij]; omega
    · rw [getD_set_ne false (fun e => hkj e.symm)] at hkl
      simp only [upd, if_neg hkj, if_neg hij]
      exact h3 k ok hkn hki hk hkal hkl

theorem hQput (hQ : ∀ c (a : Act) (d : Tmp) v w, Q' (.panic c) { a with tmps := a.tmps.setIfInBounds d v } w → Q' (.panic c) a w) (d : Option Tmp) (v : Value) :
    ∀ c (a : Act) w, Q' (.panic c) (a.put d v) w → Q' (.panic c) a w := fun c a w h => by
  cases d with
  | none => exact h
  | some d => exact hQ c a d v w h

/-- An operation that only reads may be taken first. -/
theorem wpB_first {n i : Nat} {oi : Oper} {v : Value} (hi : ops[i]? = some oi) (hna : isAlloc oi = false)
    (hsel : ∀ (j : Nat) (o : Oper) cs b, ops[j]? = some o → o.op ≠ .select cs b)
    (hs : sinkL md ops late n = true) (hc : Region.chainB md ops n = true) (hin : i < n)
    (hQ : ∀ c (a : Act) (d : Tmp) v w, Q' (.panic c) { a with tmps := a.tmps.setIfInBounds d v } w → Q' (.panic c) a w) :
    ∀ (f : Nat) (listed : Array Bool) (a : Act) (β : Nat → Nat), HeadInv md ops n listed →
      (∀ j oj, ops[j]? = some oj → j ≠ i → listed.getD j true = false → (∀ e ∈ oj.after, Region.binds md e = true → e.on ≠ i) → oi.apart ops oj = true) →
      i ∈ Region.ready md ops listed → Yld P ops C late i oi v a →
      wpB P md ops C B cf late n Q' f (listed.setIfInBounds i true) (a.put oi.dst v) β → wpB P md ops C B cf late n Q' (f + 1) listed a β := by
  intro f
  induction f with
  | zero =>
    intro listed a β inv _ hr hy H
    refine ⟨fun h => (by rw [h] at hr; cases hr), fun j hj => ?_⟩
    by_cases hji : j = i
    · subst hji; exact ⟨fun _ => hy.aOp hi hna H, fun h => absurd hin (by omega)⟩
    · have := ready_mono hj hji
      rw [H.1] at this; cases this
  | succ f ih =>
    intro listed a β inv hfree hr hy H
    have hun := (mem_ready.1 hr).1
    refine ⟨fun h => (by rw [h] at hr; cases hr), fun j hj => ?_⟩
    by_cases hji : j = i
    · subst hji; exact ⟨fun _ => hy.aOp hi hna H, fun h => absurd hin (by omega)⟩
    · have h1 := H.2 j (ready_mono hj hji)
      obtain ⟨hjun, oj, hoj, hall⟩ := mem_ready.1 hj
      have hnot : ∀ e ∈ oj.after, Region.binds md e = true → e.on ≠ i := fun e he hb heq => by
        have h1 := hall e he hb
        rw [heq, getD_both hun] at h1
        cases h1
      have hap := hfree j oj hoj hji hjun hnot
      refine ⟨fun hjn => ?_, fun hnj => ?_⟩
      · have h2 := aOp_put hoj hap (fun cs b => hsel i oi cs b hi) (fun cs b => hsel j oj cs b hoj) hy (h1.1 hjn)
        refine aOp_mono (fun a' β' h3 => ih (listed.setIfInBounds j true) a' β' (inv.set hj hjn) (free_step hfree) (ready_mono hr (Ne.symm hji)) h3.1 ?_) h2
        rw [Array.setIfInBounds_comm _ _ hji]
        exact h3.2
      · intro w hC hH
        cases hl : late.contains i with
        | false => exact absurd hj (tail_waits' hs hc inv _ i rfl hin hl hun j hnj)
        | true =>
          have hy' := hy.always hl
          have h2 := h1.2 hnj w hC (hH.list hi hna)
          have h3 := wpOp_put hoj hap (fun cs b => hsel i oi cs b hi) (fun cs b => hsel j oj cs b hoj) (hQput hQ _ _) hy' h2
          refine wpOp_mono (fun a' w' h4 => wpAny_first hi hsel (hQput hQ _ _) f (listed.setIfInBounds j true) a' w' (free_step hfree) (ready_mono hr (Ne.symm hji)) h4.1 ?_) h3
          rw [Array.setIfInBounds_comm _ _ hji]
          exact h4.2

/-- A new variable may be taken first, where only new variables are left. -/
theorem wpB_alloc {n i : Nat} {oi : Oper} (hi : ops[i]? = some oi) (hal : isAlloc oi = true) (hg : oi.guard = none)
    (hsel : ∀ (j : Nat) (o : Oper) cs b, ops[j]? = some o → o.op ≠ .select cs b)
    (hs : sinkL md ops late n = true) (hc : Region.chainB md ops n = true) (hin : i < n) (hnl : late.contains i = false) :
    ∀ (f : Nat) (listed : Array Bool) (a : Act) (β : Nat → Nat), HeadInv md ops n listed →
      (∀ j oj, ops[j]? = some oj → j < n → listed.getD j true = false → isAlloc oj = true) →
      (∀ j oj, ops[j]? = some oj → j ≠ i → listed.getD j true = false → (∀ e ∈ oj.after, Region.binds md e = true → e.on ≠ i) → oi.apart ops oj = true) →
      i ∈ Region.ready md ops listed → allocAt P oi a (cf i) →
      (∀ b, B ≤ b → wpB P md ops C B cf late n Q' f (listed.setIfInBounds i true) (a.put oi.dst (.pointer (some ⟨b, 0, none⟩))) (upd β i b)) → wpB P md ops C B cf late n Q' (f + 1) listed a β := by
  intro f
  induction f with
  | zero =>
    intro listed a β inv _ _ hr hy H
    refine ⟨fun h => (by rw [h] at hr; cases hr), fun j hj => ?_⟩
    by_cases hji : j = i
    · subst hji; exact ⟨fun _ => by unfold aOp; simp only [hi, hal, if_true]; exact ⟨hg, hy, H⟩, fun h => absurd hin (by omega)⟩
    · have := ready_mono hj hji
      rw [(H B (Nat.le_refl _)).1] at this; cases this
  | succ f ih =>
    intro listed a β inv hallAl hfree hr hy H
    have hun := (mem_ready.1 hr).1
    refine ⟨fun h => (by rw [h] at hr; cases hr), fun j hj => ?_⟩
    by_cases hji : j = i
    · subst hji; exact ⟨fun _ => by unfold aOp; simp only [hi, hal, if_true]; exact ⟨hg, hy, H⟩, fun h => absurd hin (by omega)⟩
    · have hjn : j < n := by
        rcases Nat.lt_or_ge j n with h | h
        · exact h
        · exact absurd hj (tail_waits' hs hc inv _ i rfl hin hnl hun j h)
      refine ⟨fun _ => ?_, fun h => absurd hjn (by omega)⟩
      obtain ⟨hjun, oj, hoj, hall⟩ := mem_ready.1 hj
      have hjal := hallAl j oj hoj hjn hjun
      have hnot : ∀ e ∈ oj.after, Region.binds md e = true → e.on ≠ i := fun e he hb heq => by
        have h1 := hall e he hb
        rw [heq, getD_both hun] at h1
        cases h1
      obtain ⟨ap1, ap2, ap3⟩ := Oper.apart_spec (hfree j oj hoj hji hjun hnot)
      have hH := fun b hb => ((H b hb).2 j (ready_mono hj hji)).1 hjn
      unfold aOp at hH ⊢
      simp only [hoj, hjal, if_true] at hH ⊢
      refine ⟨(hH B (Nat.le_refl _)).1, fun w => ?_, fun b' hb' => ?_⟩
      · have := (hH B (Nat.le_refl _)).2.1 w
        rwa [execOp_put oj (fun cs b => hsel j oj cs b hoj) a oi.dst _ ap1] at this
      · refine ih (listed.setIfInBounds j true) _ _ (inv.set hj hjn) ?_ (free_step hfree) (ready_mono hr (Ne.symm hji)) (fun w => ?_) (fun b hb => ?_)
        · intro k ok hk hkn hkun
          refine hallAl k ok hk hkn ?_
          by_cases hjk : j = k
          · subst hjk; exact hjun
          · rw [getD_set_ne true hjk] at hkun; exact hkun
        · rw [execOp_put oi (fun cs b => hsel i oi cs b hi) a oj.dst _ ap3]; exact hy w
        · have := (hH b hb).2.2 b' hb'
          rw [Act.put_comm a _ _ ap2, upd_comm _ _ _ (Ne.symm hji)] at this
          rw [Array.setIfInBounds_comm _ _ hji]
          exact this

/-- THE LEXICAL WALK of the head. -/
def wpHead (P : Program) (ops : Array Oper) (C : World → Prop) (B : Nat) (cf : Nat → Obj) (late : List Nat) (Q : St) : List Oper → Nat → St
  | [], _, a, β => Q a β
  | _ :: rest, k, a, β => aOp P ops C B cf late k (wpHead P ops C B cf late Q rest (k + 1)) a β

/-- m operations that are no new variables, then new variables alone, none of them late. -/
def shapeB (ops : Array Oper) (late : List Nat) (m n : Nat) : Bool :=
  (List.range n).all fun i => match ops[i]? with
    | some o => isAlloc o == decide (m ≤ i) && (decide (i < m) || o.guard.isNone && !late.contains i)
    | none => false

theorem shapeB_spec {m n i : Nat} {o : Oper} (h : shapeB ops late m n = true) (hin : i < n) (hi : ops[i]? = some o) :
    isAlloc o = decide (m ≤ i) ∧ (m ≤ i → o.guard = none ∧ late.contains i = false) := by
  have := List.all_eq_true.1 h i (List.mem_range.2 hin)
  simp only [hi, Bool.and_eq_true, beq_iff_eq, Bool.or_eq_true, decide_eq_true_eq, Bool.not_eq_true'] at this
  refine ⟨this.1, fun hm => ?_⟩
  rcases this.2 with h | h
  · omega
  · exact ⟨by simpa using h.1, h.2⟩

/-- The tail, from the head's end on. -/
theorem wpB_tail {n : Nat} {l : List Oper} {listed : Array Bool} {a : Act} {β : Nat → Nat} (hl : ∀ j, l[j]? = ops[n + j]?) (hB : Region.seqB md ops l.length n listed = true)
    (h : ∀ w, C w → Holds ops B cf n listed β w → wpList P ops Q' l a w) : wpB P md ops C B cf late n Q' l.length listed a β := by
  cases l with
  | nil =>
    simp only [List.length_nil, Region.seqB, List.isEmpty_iff] at hB
    exact ⟨hB, h⟩
  | cons o l =>
    have hw := fun w hC hH => wpAny_of_seq (o :: l) n listed a w hl hB (h w hC hH)
    simp only [List.length_cons, Region.seqB, Bool.and_eq_true, decide_eq_true_eq] at hB
    refine ⟨by rw [hB.1]; simp, fun i hi => ?_⟩
    have hin : i = n := by rw [hB.1] at hi; simpa using hi
    exact ⟨fun hlt => by omega, fun _ w hC hH => (hw w hC hH).2 i hi⟩

theorem wpB_lex {m n : Nat} {tl : List Oper} {Lq : St} (hsel : Region.noSelect ops = true) (hs : sinkL md ops late n = true) (hc : Region.chainB md ops n = true) (hn : n ≤ ops.size) (hal : shapeB ops late m n = true)
    (hQ : ∀ c (a : Act) (d : Tmp) v w, Q' (.panic c) { a with tmps := a.tmps.setIfInBounds d v } w → Q' (.panic c) a w)
    (hLq : ∀ listed a β, (∀ j, j < n → listed.getD j false = true) → Region.seqB md ops tl.length n listed = true → Lq a β → wpB P md ops C B cf late n Q' tl.length listed a β) :
    ∀ (l : List Oper) (k : Nat) (listed : Array Bool) (a : Act) (β : Nat → Nat), (∀ j, j < l.length → l[j]? = ops[k + j]?) → k + l.length = n → HeadInv md ops n listed → (∀ j, j < k → listed.getD j false = true) →
    Region.lexHead md ops tl.length l.length k listed = true → wpHead P ops C B cf late Lq l k a β →
    wpB P md ops C B cf late n Q' (l.length + tl.length) listed a β
  | [], k, listed, a, β, _, hk, _, hdn, hB, h => by
    have : k = n := by simpa using hk
    subst this
    rw [List.length_nil, Nat.zero_add]
    exact hLq listed a β hdn (by simpa [Region.lexHead] using hB) h
  | o :: l, k, listed, a, β, hl, hk, inv, hdn, hB, h => by
    have h0 : ops[k]? = some o := by simpa using (hl 0 (by simp)).symm
    simp only [List.length_cons, Region.lexHead, Bool.and_eq_true] at hB
    obtain ⟨⟨hr, hf⟩, hB'⟩ := hB
    have hkn : k < n := by simp only [List.length_cons] at hk; omega
    have hr' : k ∈ Region.ready md ops listed := by simpa using hr
    obtain ⟨ha1, ha2⟩ := shapeB_spec hal hkn h0
    have hdn' : ∀ j, j < k + 1 → (listed.setIfInBounds k true).getD j false = true := fun j hj => by
      by_cases hjk : k = j
      · subst hjk
        have : k < listed.size := by rw [inv.size]; omega
        simp [this]
      · exact getD_set_true (hdn j (by omega))
    have next : ∀ a' β', wpHead P ops C B cf late Lq l (k + 1) a' β' → wpB P md ops C B cf late n Q' (l.length + tl.length) (listed.setIfInBounds k true) a' β' :=
      fun a' β' hh => wpB_lex hsel hs hc hn hal hQ hLq l (k + 1) _ a' β' (fun j hj => by have := hl (j + 1) (by simp; omega); simpa [Nat.add_assoc, Nat.add_comm 1 j] using this) (by simp only [List.length_cons] at hk; omega) (inv.set hr' hkn) hdn' hB' hh
    rw [List.length_cons, show l.length + 1 + tl.length = (l.length + tl.length) + 1 by omega]
    simp only [wpHead, aOp, h0] at h
    cases hisal : isAlloc o with
    | false =>
      simp only [hisal, Bool.false_eq_true, if_false] at h
      have hst : ∃ v, Yld P ops C late k o v a ∧ wpHead P ops C B cf late Lq l (k + 1) (a.put o.dst v) β := by
        by_cases hw : Region.wanted o (yielded ops a.tmps) = true
        · simp only [hw, if_true] at h; obtain ⟨v, h1, h2⟩ := h; exact ⟨v, .inl ⟨hw, h1⟩, h2⟩
        · simp only [hw] at h; exact ⟨undef, .inr ⟨by simpa using hw, rfl⟩, h⟩
      obtain ⟨v, hy, hK⟩ := hst
      exact wpB_first h0 hisal (Region.noSelect_spec hsel) hs hc hkn hQ _ listed a β inv (Region.free_spec h0 hf) hr' hy (next _ _ hK)
    | true =>
      simp only [hisal, if_true] at h
      obtain ⟨hg, hat, hK⟩ := h
      have hmk : m ≤ k := by rw [hisal] at ha1; simpa using ha1.symm
      refine wpB_alloc h0 hisal hg (Region.noSelect_spec hsel) hs hc hkn (ha2 hmk).2 _ listed a β inv ?_ (Region.free_spec h0 hf) hr' hat (fun b hb => next _ _ (hK b hb))
      intro j oj hj hjn hun
      rw [(shapeB_spec hal hjn hj).1]
      rcases Nat.lt_or_ge j k with hjk | hjk
      · have := hdn j hjk
        rw [getD_both hun] at this
        cases this
      · simp; omega

theorem wpAny_of_B {n : Nat} {w0 : World} (hBB : B = w0.heap.size) (hCC : C = Below B w0) :
    ∀ (f : Nat) (listed : Array Bool) (a : Act) (β : Nat → Nat) (w : World), HeadInv md ops n listed → C w → Holds ops B cf n listed β w → wpB P md ops C B cf late n Q' f listed a β → wpAny P md ops Q' f listed a w
  | 0, listed, a, β, w, _, hC, hH, h => ⟨h.1, h.2 w hC hH⟩
  | f + 1, listed, a, β, w, inv, hC, hH, h => by
    refine ⟨fun h0 => absurd h0 h.1, fun i hi => ?_⟩
    obtain ⟨h1, h2⟩ := h.2 i hi
    rcases Nat.lt_or_ge i n with hin | hni
    case inr => exact h2 hni w hC hH
    have h1 := h1 hin
    obtain ⟨hun, o, ho, hall⟩ := mem_ready.1 hi
    have inv' := inv.set hi hin
    have hBw : B ≤ w.heap.size := by have h2 := hC; rw [hCC] at h2; have := h2.size; omega
    unfold aOp at h1
    simp only [ho] at h1
    unfold wpOp
    simp only [ho]
    cases hal : isAlloc o with
    | true =>
      simp only [hal, if_true] at h1
      obtain ⟨hg, hat, hk⟩ := h1
      rw [if_pos (by simp [Region.wanted, hg])]
      refine .inl ?_
      unfold Oper.wp
      rw [hat w]
      refine wpAny_of_B hBB hCC f _ _ _ _ inv' ?_ (hH.alloc hBw) (hk w.heap.size hBw)
      rw [hCC] at hC ⊢
      exact hC.alloc hBw _
    | false =>
      simp only [hal, Bool.false_eq_true, if_false] at h1
      split
      · rename_i hw
        simp only [hw, if_true] at h1
        obtain ⟨v, hv, hK⟩ := h1
        have h3 : monoAt P o a w v := by
          cases hl : late.contains i with
          | true => unfold monoAt; rw [hv.1 hl w]; exact ⟨rfl, rfl⟩
          | false => exact hv.2 hl w hC
        refine .inl ?_
        unfold monoAt at h3
        unfold Oper.wp
        generalize (execOp a.eval o).run P w = r at *
        cases r with
        | ok nx w' =>
          cases nx <;> simp only [monoUpon] at h3 <;> simp only [Oper.upon]
          case value u => obtain ⟨e1, e2⟩ := h3; rw [e1, e2]; exact wpAny_of_B hBB hCC f _ _ _ _ inv' hC (hH.list ho hal) hK
          case skip => obtain ⟨e1, e2⟩ := h3; rw [e1, ← e2]; exact wpAny_of_B hBB hCC f _ _ _ _ inv' hC (hH.list ho hal) hK
          case enter f' args =>
            obtain ⟨e1, hcl⟩ := h3
            rw [e1]
            refine hcl.mono fun e w'' ⟨he, hb⟩ => ?_
            subst he
            refine wpAny_of_B hBB hCC f _ _ _ _ inv' ?_ ((hH.list ho hal).below hb) hK
            rw [hCC] at hC ⊢
            exact hC.trans (hb.mono hBw)
        | halt x w' => simp only [monoUpon] at h3
      · rename_i hw
        simp only [hw] at h1
        exact wpAny_of_B hBB hCC f _ _ _ _ inv' hC (hH.list ho hal) h1

/-- The new variables, as a list: their blocks lie from B on, are apart, and hold what new variables hold. -/
def Owns (B : Nat) (w : World) : List (Nat × Obj) → Prop
  | [] => True
  | p :: r => B ≤ p.1 ∧ w.heap[p.1]? = some p.2 ∧ (∀ q ∈ r, q.1 ≠ p.1) ∧ Owns B w r

def allocsOf (m n : Nat) : List Nat := List.range' m (n - m)

theorem owns_of {w : World} {β : Nat → Nat} : ∀ (l : List Nat), l.Nodup → (∀ i ∈ l, B ≤ β i ∧ w.heap[β i]? = some (cf i)) → (∀ i ∈ l, ∀ j ∈ l, j ≠ i → β j ≠ β i) → Owns B w (l.map fun i => (β i, cf i))
  | [], _, _, _ => trivial
  | i :: l, hnd, h1, h2 => by
    obtain ⟨hni, hnd'⟩ := List.nodup_cons.1 hnd
    refine ⟨(h1 i (by simp)).1, (h1 i (by simp)).2, fun q hq => ?_, owns_of l hnd' (fun j hj => h1 j (by simp [hj])) (fun j hj k hk => h2 j (by simp [hj]) k (by simp [hk]))⟩
    obtain ⟨j, hj, rfl⟩ := List.mem_map.1 hq
    exact h2 i (by simp) j (by simp [hj]) (fun e => hni (e ▸ hj))

def regionB (ops : Array Oper) (late : List Nat) (m n : Nat) : Bool :=
  Region.noSelect ops && decide (n ≤ ops.size) && sinkL .any ops late n && Region.chainB .any ops n && Region.lexHead .any ops (ops.size - n) n 0 (Array.replicate ops.size false) && shapeB ops late m n

/-- THE RULE. m operations that only read or call (those of 'late' only compute); new variables up to n; the tail in its one order. -/
theorem wp_region_mono {id : Nat} {Q : Exit → Act → World → Prop} {a : Act} {w : World} {l : List Oper} (m n : Nat) (late : List Nat) (cf : Nat → Obj) (hm : P.follows .mixedOrders = true)
    (hB : regionB l.toArray late m n = true) (hQ : ∀ c (a : Act) (d : Tmp) v w, Q (.panic c) { a with tmps := a.tmps.setIfInBounds d v } w → Q (.panic c) a w)
    (h : wpHead P l.toArray (Below w.drew.heap.size w.drew) w.drew.heap.size cf late (fun a' β => ∀ w', Below w.drew.heap.size w.drew w' → Owns w.drew.heap.size w' ((allocsOf m n).map fun i => (β i, cf i)) → wpList P l.toArray Q (l.drop n) a' w') (l.take n) 0 a (fun _ => 0)) :
    (Code.region id l.toArray true).wp P Q a w := by
  simp only [regionB, Bool.and_eq_true, decide_eq_true_eq] at hB
  obtain ⟨⟨⟨⟨⟨hsel, hn⟩, hs⟩, hc⟩, hlex⟩, hal⟩ := hB
  have hn' : n ≤ l.length := by simpa using hn
  have htl : (l.take n).length = n := by simp; omega
  have hdl : (l.drop n).length = l.toArray.size - n := by simp
  have inv0 : HeadInv .any l.toArray n (Array.replicate l.toArray.size false) :=
    ⟨by simp, fun j oj _ hl => (by rw [getD_replicate_false] at hl; cases hl), fun t _ ht => getD_in (by simpa using ht) (getD_replicate_false _ _)⟩
  have H := wpB_lex (md := .any) (late := late) (Q' := Q) (tl := l.drop n) hsel hs hc hn hal hQ (fun listed a' β hls hseq hL => wpB_tail (fun j => by simp [List.getElem?_drop]) hseq (fun w' hC hH => hL w' hC (by
      have mem : ∀ i ∈ allocsOf m n, m ≤ i ∧ i < n := fun i hi => by
        have := List.mem_range'_1.1 hi; omega
      have op : ∀ i, m ≤ i → i < n → ∃ o, l.toArray[i]? = some o ∧ isAlloc o = true := fun i h1 h2 => by
        have hlt : i < l.toArray.size := by omega
        refine ⟨l.toArray[i], Array.getElem?_eq_getElem hlt, ?_⟩
        rw [(shapeB_spec hal h2 (Array.getElem?_eq_getElem hlt)).1]
        simpa using h1
      refine owns_of _ List.nodup_range' (fun i hi => ?_) (fun i hi j hj hji => ?_)
      · obtain ⟨h1, h2⟩ := mem i hi
        obtain ⟨o, ho, ha⟩ := op i h1 h2
        exact ⟨(hH i o h2 ho ha (hls i h2)).1, (hH i o h2 ho ha (hls i h2)).2.1⟩
      · obtain ⟨h1, h2⟩ := mem i hi
        obtain ⟨o, ho, ha⟩ := op i h1 h2
        obtain ⟨h3, h4⟩ := mem j hj
        obtain ⟨oj, hoj, haj⟩ := op j h3 h4
        exact (hH i o h2 ho ha (hls i h2)).2.2 j oj h4 hji hoj haj (hls j h4))))
    (l.take n) 0 _ a (fun _ => 0) (fun j hj => by
      have hj' : j < n := by rw [htl] at hj; exact hj
      simp [hj']) (by simpa using htl) inv0 (fun j hj => absurd hj (Nat.not_lt_zero _)) (by rw [htl, hdl]; exact hlex) h
  refine wp_region_any hm ?_
  have := wpAny_of_B (md := .any) (w0 := w.drew) rfl rfl _ _ a (fun _ => 0) w.drew inv0 (Below.refl _ _) (fun i o _ _ _ hl => by rw [getD_replicate_false] at hl; cases hl) H
  rw [htl, hdl, show n + (l.toArray.size - n) = l.toArray.size by omega] at this
  exact this
end

/-! ### The steps of the walk -/
section
variable {P : Program} {ops : Array Oper} {C : World → Prop} {B : Nat} {cf : Nat → Obj} {late : List Nat} {Q : St} {o : Oper} {rest : List Oper} {k : Nat} {a : Act} {β : Nat → Nat} {v : Value}
theorem head_nil (h : Q a β) : wpHead P ops C B cf late Q [] k a β := h
theorem head_of (hi : ops[k]? = some o) (hna : isAlloc o = false) (hg : o.guard = none) (h : StepAt P C late k o a v)
    (hk : wpHead P ops C B cf late Q rest (k + 1) (a.put o.dst v) β) : wpHead P ops C B cf late Q (o :: rest) k a β := by
  unfold wpHead aOp
  simp only [hi, hna, Bool.false_eq_true, if_false]
  rw [if_pos (by simp [Region.wanted, hg])]
  exact ⟨v, h, hk⟩
/-- An operation that computes, in whatever world. -/
theorem head_pure (hi : ops[k]? = some o) (hna : isAlloc o = false) (hg : o.guard = none) (h : ∀ w, (execOp a.eval o).run P w = .ok (.value v) w)
    (hk : wpHead P ops C B cf late Q rest (k + 1) (a.put o.dst v) β) : wpHead P ops C B cf late Q (o :: rest) k a β :=
  head_of hi hna hg ⟨fun _ => h, fun _ w _ => by unfold monoAt; rw [h w]; exact ⟨rfl, rfl⟩⟩ hk
/-- An operation that reads. -/
theorem head_val (hi : ops[k]? = some o) (hna : isAlloc o = false) (hg : o.guard = none) (hl : late.contains k = false) (h : ∀ w, C w → (execOp a.eval o).run P w = .ok (.value v) w)
    (hk : wpHead P ops C B cf late Q rest (k + 1) (a.put o.dst v) β) : wpHead P ops C B cf late Q (o :: rest) k a β :=
  head_of hi hna hg ⟨fun h => (by rw [hl] at h; cases h), fun _ w hw => by unfold monoAt; rw [h w hw]; exact ⟨rfl, rfl⟩⟩ hk
theorem head_skip (hi : ops[k]? = some o) (hna : isAlloc o = false) (hg : o.guard = none) (hl : late.contains k = false) (h : ∀ w, C w → (execOp a.eval o).run P w = .ok .skip w)
    (hk : wpHead P ops C B cf late Q rest (k + 1) (a.put o.dst undef) β) : wpHead P ops C B cf late Q (o :: rest) k a β :=
  head_of hi hna hg ⟨fun h => (by rw [hl] at h; cases h), fun _ w hw => by unfold monoAt; rw [h w hw]; exact ⟨rfl, rfl⟩⟩ hk
theorem head_call {f : FuncId} {args : Array Value} (hi : ops[k]? = some o) (hna : isAlloc o = false) (hg : o.guard = none) (hl : late.contains k = false) (h : ∀ w, C w → (execOp a.eval o).run P w = .ok (.enter f args) w)
    (hc : ∀ w, C w → Calls P f args w (fun e w'' => e = .returned v ∧ Below w.heap.size w w''))
    (hk : wpHead P ops C B cf late Q rest (k + 1) (a.put o.dst v) β) : wpHead P ops C B cf late Q (o :: rest) k a β :=
  head_of hi hna hg ⟨fun h => (by rw [hl] at h; cases h), fun _ w hw => by unfold monoAt; rw [h w hw]; exact ⟨rfl, hc w hw⟩⟩ hk
theorem head_alloc {c : Obj} (hi : ops[k]? = some o) (hal : isAlloc o = true) (hg : o.guard = none) (hcf : cf k = c) (h : ∀ w, (execOp a.eval o).run P w = .ok (.value (.pointer (some ⟨w.heap.size, 0, none⟩))) (w.alloc c))
    (hk : ∀ b, B ≤ b → wpHead P ops C B cf late Q rest (k + 1) (a.put o.dst (.pointer (some ⟨b, 0, none⟩))) (upd β k b)) : wpHead P ops C B cf late Q (o :: rest) k a β := by
  unfold wpHead aOp
  simp only [hi, hal, if_true]
  exact ⟨hg, fun w => by rw [hcf]; exact h w, hk⟩
end
end Go.Mono
