/- The rule of XSeq in the order of the text: the walk's steps. No conditions beyond a Bool over the region. -/
import Derived.Test.YtggbjpebdmlahaaSeq
namespace Go.Mono
open Go Go.RowKit
section
variable {P : Program} {ops : Array Oper} {C : World → Prop} {eff : List Nat} {Q' : Exit → Act → World → Prop} {Qt : StW} {o : Oper} {rest : List Oper} {k : Nat} {a : Act} {w : World} {v : Value}
def wpTxt (P : Program) (ops : Array Oper) (C : World → Prop) (eff : List Nat) (Q' : Exit → Act → World → Prop) (Qt : StW) : List Oper → Nat → StW
  | [], _, a, w => Qt a w
  | _ :: rest, k, a, w => cOp P ops C eff Q' k (wpTxt P ops C eff Q' Qt rest (k + 1)) a w
theorem wpOrd_of_txt : ∀ (l : List Oper) (k : Nat) (a : Act) (w : World), wpTxt P ops C eff Q' Qt l k a w → wpOrd P ops C eff Q' Qt (List.range' k l.length) a w
  | [], _, _, _, h => h
  | _ :: l, k, a, w, h => cOp_mono (fun a' w' h' => wpOrd_of_txt l (k + 1) a' w' h') h
theorem txt_nil (h : Qt a w) : wpTxt P ops C eff Q' Qt [] k a w := h
theorem txt_val (hi : ops[k]? = some o) (hne : eff.contains k = false) (hw : Region.wanted o (yielded ops a.tmps) = true) (h : ∀ w, C w → (execOp a.eval o).run P w = .ok (.value v) w)
    (hk : wpTxt P ops C eff Q' Qt rest (k + 1) (a.put o.dst v) w) : wpTxt P ops C eff Q' Qt (o :: rest) k a w :=
  YldQ.cOp hi hne (.inl ⟨hw, fun w hC => by rw [h w hC]; exact ⟨rfl, rfl⟩⟩) hk
theorem txt_not (hi : ops[k]? = some o) (hne : eff.contains k = false) (hw : Region.wanted o (yielded ops a.tmps) = false)
    (hk : wpTxt P ops C eff Q' Qt rest (k + 1) (a.put o.dst undef) w) : wpTxt P ops C eff Q' Qt (o :: rest) k a w :=
  YldQ.cOp hi hne (.inr ⟨hw, rfl⟩) hk
/-- An operation that changes the world, by its run. -/
theorem txt_run {w' : World} (hi : ops[k]? = some o) (hne : eff.contains k = true) (hg : o.guard = none) (h : (execOp a.eval o).run P w = .ok (.value v) w') (hC : C w')
    (hk : wpTxt P ops C eff Q' Qt rest (k + 1) (a.put o.dst v) w') : wpTxt P ops C eff Q' Qt (o :: rest) k a w := by
  unfold wpTxt cOp
  simp only [hi, hne, if_true]
  refine ⟨hg, ?_⟩
  unfold Oper.wp
  rw [h]
  exact ⟨hC, hk⟩
/-- A call. -/
theorem txt_call {f : FuncId} {args : Array Value} {R : World → Prop} (hi : ops[k]? = some o) (hne : eff.contains k = true) (hg : o.guard = none) (h : (execOp a.eval o).run P w = .ok (.enter f args) w)
    (hc : Calls P f args w (fun e w'' => e = .returned v ∧ R w'')) (hC : ∀ w'', R w'' → C w'') (hk : ∀ w'', R w'' → wpTxt P ops C eff Q' Qt rest (k + 1) (a.put o.dst v) w'') : wpTxt P ops C eff Q' Qt (o :: rest) k a w := by
  unfold wpTxt cOp
  simp only [hi, hne, if_true]
  refine ⟨hg, ?_⟩
  unfold Oper.wp
  rw [h]
  refine Calls.mono hc ?_
  rintro e w'' ⟨rfl, h1⟩
  exact ⟨hC _ h1, hk _ h1⟩
theorem wp_region_txt {id : Nat} {Q : Exit → Act → World → Prop} {l : List Oper} (eff : List Nat) (n : Nat) (C : World → Prop) (hm : P.follows .mixedOrders = true)
    (hB : seqsB l.toArray eff (List.range' 0 (l.take n).length) n = true) (hQ : ∀ c (a : Act) (d : Tmp) v w, Q (.panic c) { a with tmps := a.tmps.setIfInBounds d v } w → Q (.panic c) a w) (hC : C w.drew)
    (h : wpTxt P l.toArray C eff Q (wpList P l.toArray Q (l.drop n)) (l.take n) 0 a w.drew) : (Code.region id l.toArray true).wp P Q a w :=
  wp_region_seq eff _ n C hm hB hQ hC (wpOrd_of_txt _ _ _ _ h)
theorem wpIn_region_txt (lr : Nat) {m : Nat} {id : Nat} {Q : Exit → Act → World → Prop} {l : List Oper} (eff : List Nat) (n : Nat) (C : World → Prop) (hm : P.follows .mixedOrders = true)
    (hB : seqsB l.toArray eff (List.range' 0 (l.take n).length) n = true) (hd : l.toArray.all notDefer = true) (hL : ¬ LetsOut Q) (hQ : ∀ c (a : Act) (d : Tmp) v w, Q (.panic c) { a with tmps := a.tmps.setIfInBounds d v } w → Q (.panic c) a w) (hC : C w.drew)
    (h : wpTxt P l.toArray C eff Q (wpList P l.toArray Q (l.drop n)) (l.take n) 0 a w.drew) : (Code.region id l.toArray true).wpIn (Fence.wide.inRound lr) m P Q a w :=
  wpIn_region_seq lr eff _ n C hm hB hd hL hQ hC (wpOrd_of_txt _ _ _ _ h)
end
end Go.Mono
