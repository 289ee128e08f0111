/- The rule of XSeq along an order of one's own, its operations written out. No conditions beyond a Bool over the region. -/
import Derived.Test.YtggbjpebdmlahaaSeqB
namespace Go.Mono
open Go Go.RowKit
section
variable {P : Program} {ops : Array Oper} {C : World → Prop} {eff : List Nat} {Q' : Exit → Act → World → Prop} {Qt : StW} {o : Oper} {rest : List (Nat × Oper)} {k : Nat} {a : Act} {w : World} {v : Value}
def wpPk (P : Program) (ops : Array Oper) (C : World → Prop) (eff : List Nat) (Q' : Exit → Act → World → Prop) (Qt : StW) : List (Nat × Oper) → StW
  | [], a, w => Qt a w
  | p :: rest, a, w => cOp P ops C eff Q' p.1 (wpPk P ops C eff Q' Qt rest) a w
theorem wpOrd_of_pk : ∀ (l : List (Nat × Oper)) (a : Act) (w : World), wpPk P ops C eff Q' Qt l a w → wpOrd P ops C eff Q' Qt (l.map Prod.fst) a w
  | [], _, _, h => h
  | _ :: l, a, w, h => cOp_mono (fun a' w' h' => wpOrd_of_pk l a' w' h') h
theorem pk_nil (h : Qt a w) : wpPk P ops C eff Q' Qt [] a w := h
theorem pk_val (hi : ops[k]? = some o) (hne : eff.contains k = false) (hw : Region.wanted o (yielded ops a.tmps) = true) (h : ∀ w, C w → (execOp a.eval o).run P w = .ok (.value v) w)
    (hk : wpPk P ops C eff Q' Qt rest (a.put o.dst v) w) : wpPk P ops C eff Q' Qt ((k, o) :: rest) a w :=
  YldQ.cOp hi hne (.inl ⟨hw, fun w hC => by rw [h w hC]; exact ⟨rfl, rfl⟩⟩) hk
theorem pk_not (hi : ops[k]? = some o) (hne : eff.contains k = false) (hw : Region.wanted o (yielded ops a.tmps) = false)
    (hk : wpPk P ops C eff Q' Qt rest (a.put o.dst undef) w) : wpPk P ops C eff Q' Qt ((k, o) :: rest) a w :=
  YldQ.cOp hi hne (.inr ⟨hw, rfl⟩) hk
theorem pk_run {w' : World} (hi : ops[k]? = some o) (hne : eff.contains k = true) (hg : o.guard = none) (h : (execOp a.eval o).run P w = .ok (.value v) w') (hC : C w')
    (hk : wpPk P ops C eff Q' Qt rest (a.put o.dst v) w') : wpPk P ops C eff Q' Qt ((k, o) :: rest) a w := by
  unfold wpPk cOp
  simp only [hi, hne, if_true]
  refine ⟨hg, ?_⟩
  unfold Oper.wp
  rw [h]
  exact ⟨hC, hk⟩
theorem pk_call {f : FuncId} {args : Array Value} {R : World → Prop} (hi : ops[k]? = some o) (hne : eff.contains k = true) (hg : o.guard = none) (h : (execOp a.eval o).run P w = .ok (.enter f args) w)
    (hc : Calls P f args w (fun e w'' => e = .returned v ∧ R w'')) (hC : ∀ w'', R w'' → C w'') (hk : ∀ w'', R w'' → wpPk P ops C eff Q' Qt rest (a.put o.dst v) w'') : wpPk P ops C eff Q' Qt ((k, o) :: rest) a w := by
  unfold wpPk cOp
  simp only [hi, hne, if_true]
  refine ⟨hg, ?_⟩
  unfold Oper.wp
  rw [h]
  refine Calls.mono hc ?_
  rintro e w'' ⟨rfl, h1⟩
  exact ⟨hC _ h1, hk _ h1⟩
/-- The picks of an order. -/
def picks (l : List Oper) (ord : List Nat) : List (Nat × Oper) := ord.filterMap fun i => (l[i]?).map fun o => (i, o)
theorem wp_region_pk {id : Nat} {Q : Exit → Act → World → Prop} {l : List Oper} (eff ord : List Nat) (n : Nat) (C : World → Prop) (hm : P.follows .mixedOrders = true)
    (hB : (seqsB l.toArray eff ord n && decide ((picks l ord).map Prod.fst = ord)) = true) (hQ : ∀ c (a : Act) (d : Tmp) v w, Q (.panic c) { a with tmps := a.tmps.setIfInBounds d v } w → Q (.panic c) a w) (hC : C w.drew)
    (h : wpPk P l.toArray C eff Q (wpList P l.toArray Q (l.drop n)) (picks l ord) a w.drew) : (Code.region id l.toArray true).wp P Q a w := by
  simp only [Bool.and_eq_true, decide_eq_true_eq] at hB
  refine wp_region_seq eff ord n C hm hB.1 hQ hC ?_
  have := wpOrd_of_pk _ _ _ h
  rwa [hB.2] at this
end
/-- A call, by whatever it leaves. -/
theorem seq_callR {P : Program} {ops : Array Oper} {Q : Exit → Act → World → Prop} {o : Oper} {rest : List Oper} {a : Act} {w : World} {v : Value} {f : FuncId} {args : Array Value} {R : World → Prop} (hw : Region.wanted o (yielded ops a.tmps) = true) (h : (execOp a.eval o).run P w = .ok (.enter f args) w)
    (hc : Calls P f args w (fun e w' => e = .returned v ∧ R w')) (hk : ∀ w', R w' → wpList P ops Q rest (a.put o.dst v) w') : wpList P ops Q (o :: rest) a w := by
  unfold wpList
  rw [if_pos hw]
  refine .inl ?_
  unfold Oper.wp
  rw [h]
  refine hc.mono fun e w' ⟨he, hb⟩ => ?_
  subst he
  exact hk w' hb
end Go.Mono
