/- A whole variable stored and loaded in one step: what lies in its block behind a store; what a result's variable reads as. No conditions beyond the block's size. -/
import Derived.Test.YtggbjpebdmlahaaPts
import Derived.Deep.MidRow
namespace Go.Num
open Go Go.RowKit
section
variable {P : Program}

theorem setCells_list {b : Nat} {t : TypeId} : ∀ (vs pre post : List Value) (w : World), post.length = vs.length → w.heap[b]? = some (.cells (pre ++ post).toArray t) → (w.setCells b pre.length vs).heap[b]? = some (.cells (pre ++ vs).toArray t)
  | [], pre, post, w, hl, h => by
    have : post = [] := List.eq_nil_of_length_eq_zero hl
    subst this; exact h
  | v :: vs, pre, [], w, hl, h => by simp at hl
  | v :: vs, pre, x :: post, w, hl, h => by
    have h1 := hp_setL (o := pre.length) (v := v) h
    rw [show (pre ++ x :: post).set pre.length v = (pre ++ [v]) ++ post by simp] at h1
    have h2 := setCells_list vs (pre ++ [v]) post (w.setCell ⟨b, pre.length, none⟩ v) (by simpa using hl) h1
    rw [show (pre ++ [v]).length = pre.length + 1 by simp, show (pre ++ [v]) ++ vs = pre ++ v :: vs by simp] at h2
    exact h2
theorem setCells_heap {w : World} {b : Nat} {t : TypeId} {old new : Array Value} (h : w.heap[b]? = some (.cells old t)) (hs : old.size = new.size) : (w.setCells b 0 new.toList).heap[b]? = some (.cells new t) := by
  have := setCells_list (b := b) (t := t) new.toList [] old.toList w (by simpa using hs) (by simpa using h)
  simpa using this
theorem setCells_other {b b' : Nat} {x : Obj} (hne : b' ≠ b) : ∀ (vs : List Value) (o : Nat) (w : World), w.heap[b']? = some x → (w.setCells b o vs).heap[b']? = some x
  | [], _, _, h => h
  | _ :: vs, o, _, h => setCells_other hne vs (o + 1) _ (hp_set_ne h hne)
theorem setCells_below {B b : Nat} (hb : B ≤ b) : ∀ (vs : List Value) (o : Nat) (w0 w : World), Below B w0 w → Below B w0 (w.setCells b o vs)
  | [], _, _, _, h => h
  | _ :: vs, o, w0, _, h => setCells_below hb vs (o + 1) w0 _ (h.setCell hb _)
theorem setCells_keeps {b : Nat} : ∀ (vs : List Value) (o : Nat) (w : World), KeepsOthers w (w.setCells b o vs)
  | [], _, w => KeepsOthers.refl w
  | _ :: vs, o, w => (KeepsOthers.setCell w _ _).trans (setCells_keeps vs (o + 1) _)

/-- What a store of a whole variable does to the world. -/
structure Stored (w w' : World) (b : Nat) (cells : Array Value) (t : TypeId) : Prop where
  at_ : w'.heap[b]? = some (.cells cells t)
  other : ∀ {b' : Nat} {x : Obj}, w.heap[b']? = some x → b' ≠ b → w'.heap[b']? = some x
  below : ∀ {B : Nat} {w0 : World}, Below B w0 w → B ≤ b → Below B w0 w'
  keeps : KeepsOthers w w'
  size : w'.heap.size = w.heap.size
theorem setCells_size {b : Nat} : ∀ (vs : List Value) (o : Nat) (w : World), (w.setCells b o vs).heap.size = w.heap.size
  | [], _, _ => rfl
  | v :: vs, o, w => (setCells_size vs (o + 1) _).trans (by simp [World.setCell])
theorem stored_of {w : World} {b : Nat} {t : TypeId} {old new : Array Value} (h : w.heap[b]? = some (.cells old t)) (hs : old.size = new.size) : Stored w (w.setCells b 0 new.toList) b new t :=
  ⟨setCells_heap h hs, fun hx hne => setCells_other hne _ _ _ hx, fun hB hb => setCells_below hb _ _ _ _ hB, setCells_keeps _ _ _, setCells_size _ _ _⟩
theorem there_of {w : World} {b : Nat} {t : TypeId} {old : Array Value} {n : Nat} (h : w.heap[b]? = some (.cells old t)) (hs : old.size = n) : w.there b 0 n := fun j hj => by
  rw [Nat.zero_add, cell_of h, frozen_of h]
  exact ⟨by rw [Array.getElem?_eq_getElem (by omega)]; rfl, rfl⟩

/-- A store of a whole variable, at the head of a region's list. -/
theorem wpList_storeBlk (n : Nat) {ops : Array Oper} {rest : List Oper} {op : Oper} {a : Act} {w : World} {Q : Exit → Act → World → Prop} {ty : TypeId} {x y : Operand} {b : Nat} {t : TypeId} {old cells : Array Value}
    (hgd : op.guard = none) (ho : op.op = .store ty x y) (hx : a.eval x = .pointer (some ⟨b, 0, none⟩)) (hy : a.eval y = .agg cells) (hb : w.heap[b]? = some (.cells old t)) (hs1 : old.size = n) (hs2 : cells.size = n)
    (hi : (P.info? ty).map (·.size) = some n) (h1 : cells.all (·.oneCell') = true)
    (hk : ∀ w', Stored w w' b cells t → wpList P ops Q rest (a.put op.dst undef) w') : wpList P ops Q (op :: rest) a w :=
  wpList_store_mid hgd ty x y ho b 0 cells hx hy (there_of hb (hs1.trans hs2.symm)) (hs2 ▸ hi) h1 (hk _ (stored_of hb (hs1.trans hs2.symm)))

/-- The same inside a fence. -/
theorem wpListIn_storeBlk (n : Nat) {F : Fence} {m : Nat} {ops : Array Oper} {rest : List Oper} {op : Oper} {a : Act} {w : World} {Q : Exit → Act → World → Prop} {ty : TypeId} {x y : Operand} {b : Nat} {t : TypeId} {old cells : Array Value}
    (hgd : op.guard = none) (ho : op.op = .store ty x y) (hx : a.eval x = .pointer (some ⟨b, 0, none⟩)) (hy : a.eval y = .agg cells) (hb : w.heap[b]? = some (.cells old t)) (hs1 : old.size = n) (hs2 : cells.size = n)
    (hi : (P.info? ty).map (·.size) = some n) (h1 : cells.all (·.oneCell') = true)
    (hk : ∀ w', Stored w w' b cells t → wpListIn F m P ops Q rest (a.put op.dst undef) w') : wpListIn F m P ops Q (op :: rest) a w := by
  refine wpListIn_plain hgd fun K hK => ⟨fun f hf => ?_, ?_⟩
  · unfold Oper.about at hf; rw [ho] at hf; cases hf
  · rw [Oper.semAt_eq _ _ _ (fun c h => by rw [ho] at h; cases h)]
    have hr := run_storeVar_mid (P := P) w b 0 ty cells (there_of hb (hs1.trans hs2.symm)) (hs2 ▸ hi) h1
    have he : (execOp a.eval op).run P w = .ok .skip (w.setCells b 0 cells.toList) := by
      unfold execOp
      simp only [ho, hx, hy, Instr.storeAt, Instr.sureAddr, Sem.run_bind, Sem.run_pure, Result.andThen_ok, hr]
    rw [he]
    exact hK _ _ (hk _ (stored_of hb (hs1.trans hs2.symm)))

/-- A result that lies in a variable of its own. -/
theorem results_blk {fn : Func} {r : Tmp} {ty : TypeId} {tmps : Array Value} {w : World} {b : Nat} {c : Array Value} {t : TypeId} {z : Nat × Nat} {d : TypeDesc} (h : fn.results = #[.cell r ty]) (ht : tmps.getD r undef = .pointer (some ⟨b, 0, none⟩))
    (hb : w.heap[b]? = some (.cells c t z)) (hu : P.underlying ty = some d) (hd : d.isRow = true) (hi : (P.info? ty).map (·.size) = some c.size) : (results fn tmps).run P w = .ok (.agg c) w := by
  have hr := World.rangeAt_of_block hb 0 c.size
  rw [Nat.zero_add] at hr
  have hl := run_loadVar_mid (P := P) w b 0 ty (c.extract 0 c.size).toList d hr hu hd (by simpa using hi)
  have ht' : tmps[r]?.getD undef = .pointer (some ⟨b, 0, none⟩) := by simpa using ht
  have hl' : Sem.run P (loadVar ty ⟨b, 0, none⟩) w = .ok (.agg c) w := by rw [hl]; simp
  simp [results, h, ht', asAddr, hl']
end
end Go.Num
