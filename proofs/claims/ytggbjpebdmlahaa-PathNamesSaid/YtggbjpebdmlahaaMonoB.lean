/- More steps for regions whose order is drawn: guarded operations; regions without a tail of stores. No conditions. -/
import Derived.Test.YtggbjpebdmlahaaMono
import Derived.Deep.Quiet
namespace Go.Mono
open Go Go.RowKit
section
variable {P : Program} {ops : Array Oper} {C : World → Prop} {B : Nat} {cf : Nat → Obj} {late : List Nat} {Q : St} {o : Oper} {rest : List Oper} {k : Nat} {a : Act} {β : Nat → Nat} {v : Value}
theorem head_ofW (hi : ops[k]? = some o) (hna : isAlloc o = false) (hw : Region.wanted o (yielded ops a.tmps) = true) (h : StepAt P C late k o a v)
    (hk : wpHead P ops C B cf late Q rest (k + 1) (a.put o.dst v) β) : wpHead P ops C B cf late Q (o :: rest) k a β := by
  unfold wpHead aOp
  simp only [hi, hna, Bool.false_eq_true, if_false]
  rw [if_pos hw]
  exact ⟨v, h, hk⟩
theorem head_not (hi : ops[k]? = some o) (hna : isAlloc o = false) (hw : Region.wanted o (yielded ops a.tmps) = false)
    (hk : wpHead P ops C B cf late Q rest (k + 1) (a.put o.dst undef) β) : wpHead P ops C B cf late Q (o :: rest) k a β := by
  unfold wpHead aOp
  simp only [hi, hna, Bool.false_eq_true, if_false]
  rw [if_neg (by rw [hw]; exact Bool.false_ne_true)]
  exact hk
theorem head_pureW (hi : ops[k]? = some o) (hna : isAlloc o = false) (hw : Region.wanted o (yielded ops a.tmps) = true) (h : ∀ w, (execOp a.eval o).run P w = .ok (.value v) w)
    (hk : wpHead P ops C B cf late Q rest (k + 1) (a.put o.dst v) β) : wpHead P ops C B cf late Q (o :: rest) k a β :=
  head_ofW hi hna hw ⟨fun _ => h, fun _ w _ => by unfold monoAt; rw [h w]; exact ⟨rfl, rfl⟩⟩ hk
theorem head_valW (hi : ops[k]? = some o) (hna : isAlloc o = false) (hw : Region.wanted o (yielded ops a.tmps) = true) (hl : late.contains k = false) (h : ∀ w, C w → (execOp a.eval o).run P w = .ok (.value v) w)
    (hk : wpHead P ops C B cf late Q rest (k + 1) (a.put o.dst v) β) : wpHead P ops C B cf late Q (o :: rest) k a β :=
  head_ofW hi hna hw ⟨fun h => (by rw [hl] at h; cases h), fun _ w hw => by unfold monoAt; rw [h w hw]; exact ⟨rfl, rfl⟩⟩ hk
theorem head_callW {f : FuncId} {args : Array Value} (hi : ops[k]? = some o) (hna : isAlloc o = false) (hw : Region.wanted o (yielded ops a.tmps) = true) (hl : late.contains k = false) (h : ∀ w, C w → (execOp a.eval o).run P w = .ok (.enter f args) w)
    (hc : ∀ w, C w → Calls P f args w (fun e w'' => e = .returned v ∧ Below w.heap.size w w''))
    (hk : wpHead P ops C B cf late Q rest (k + 1) (a.put o.dst v) β) : wpHead P ops C B cf late Q (o :: rest) k a β :=
  head_ofW hi hna hw ⟨fun h => (by rw [hl] at h; cases h), fun _ w hw => by unfold monoAt; rw [h w hw]; exact ⟨rfl, hc w hw⟩⟩ hk
end

/-! ### Regions that only read and call -/
section
variable {P : Program} {ops : Array Oper} {C : World → Prop} {Q : Act → Prop} {o : Oper} {rest : List Oper} {a : Act} {v : Value}
theorem wp_region_calm {id : Nat} {Q : Exit → Act → World → Prop} {a : Act} {w : World} {l : List Oper} (hm : P.follows .mixedOrders = true) (hB : Region.lexB .any l.toArray = true)
    (h : wpQuiet P l.toArray (Below w.drew.heap.size w.drew) (fun a' => ∀ w', Below w.drew.heap.size w.drew w' → Q .normal a' w') l a) : (Code.region id l.toArray true).wp P Q a w :=
  wp_region_quiet (C := Below w.drew.heap.size w.drew) hm hB (Below.refl _ _) (by simpa using h)
theorem calm_pure (hw : Region.wanted o (yielded ops a.tmps) = true) (h : ∀ w, (execOp a.eval o).run P w = .ok (.value v) w) (hk : wpQuiet P ops C Q rest (a.put o.dst v)) : wpQuiet P ops C Q (o :: rest) a := by
  unfold wpQuiet
  rw [if_pos hw]
  exact ⟨v, fun w _ => by unfold Oper.quietAt; rw [h w]; exact ⟨rfl, rfl⟩, hk⟩
theorem calm_val (hw : Region.wanted o (yielded ops a.tmps) = true) (h : ∀ w, C w → (execOp a.eval o).run P w = .ok (.value v) w) (hk : wpQuiet P ops C Q rest (a.put o.dst v)) : wpQuiet P ops C Q (o :: rest) a := by
  unfold wpQuiet
  rw [if_pos hw]
  exact ⟨v, fun w hC => by unfold Oper.quietAt; rw [h w hC]; exact ⟨rfl, rfl⟩, hk⟩
theorem calm_not (hw : Region.wanted o (yielded ops a.tmps) = false) (hk : wpQuiet P ops C Q rest (a.put o.dst undef)) : wpQuiet P ops C Q (o :: rest) a := by
  unfold wpQuiet
  rw [if_neg (by rw [hw]; exact Bool.false_ne_true)]
  exact hk
theorem calm_call {w0 : World} {f : FuncId} {args : Array Value} (hw : Region.wanted o (yielded ops a.tmps) = true) (h : ∀ w, Below w0.heap.size w0 w → (execOp a.eval o).run P w = .ok (.enter f args) w)
    (hc : ∀ w, Below w0.heap.size w0 w → Calls P f args w (fun e w'' => e = .returned v ∧ Below w.heap.size w w''))
    (hk : wpQuiet P ops (Below w0.heap.size w0) Q rest (a.put o.dst v)) : wpQuiet P ops (Below w0.heap.size w0) Q (o :: rest) a := by
  unfold wpQuiet
  rw [if_pos hw]
  refine ⟨v, fun w hC => ?_, hk⟩
  unfold Oper.quietAt
  rw [h w hC]
  exact ⟨rfl, (hc w hC).mono fun e w' ⟨he, hb⟩ => ⟨he, hC.trans (hb.mono hC.size)⟩⟩
end
end Go.Mono
