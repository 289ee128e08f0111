/- A rule for regions whose order is drawn, with operations that change the world in between (an append, a call, a conversion): they come in one order among themselves; the operations that only read yield one value in every world of a class that those changes keep. One walk along an order of one's own serves every order. No conditions beyond a Bool over the region that the kernel computes. -/
import Derived.Test.YtggbjpebdmlahaaMono
import Derived.CallsIn
import Derived.OrdersIn
import Derived.RangeFuncCalls
import Derived.OwnWalk
namespace Go.Mono
open Go Go.RowKit
section
variable {P : Program} {ops : Array Oper} {md : Region.Mode} {C : World → Prop} {eff : List Nat} {n : Nat} {Q' : Exit → Act → World → Prop}

def quietUpon (w : World) (v : Value) : Result Next → Prop
  | .ok (.value u) w' => w' = w ∧ u = v
  | .ok .skip w' => w' = w ∧ v = undef
  | _ => False
/-- The operation yields v in every world of the class, and turns nothing. -/
def QuietAt (P : Program) (C : World → Prop) (o : Oper) (a : Act) (v : Value) : Prop := ∀ w, C w → quietUpon w v ((execOp a.eval o).run P w)
def YldQ (P : Program) (ops : Array Oper) (C : World → Prop) (o : Oper) (v : Value) (a : Act) : Prop :=
  (Region.wanted o (yielded ops a.tmps) = true ∧ QuietAt P C o a v) ∨ (Region.wanted o (yielded ops a.tmps) = false ∧ v = undef)
theorem YldQ.of_same {o : Oper} {v : Value} {a a' : Act} (hy : YldQ P ops C o v a) (he : execOp a'.eval o = execOp a.eval o)
    (hw : Region.wanted o (yielded ops a'.tmps) = Region.wanted o (yielded ops a.tmps)) : YldQ P ops C o v a' := by
  unfold YldQ QuietAt at *
  rw [hw, he]
  exact hy
abbrev StW := Act → World → Prop
def cOp (P : Program) (ops : Array Oper) (C : World → Prop) (eff : List Nat) (Q' : Exit → Act → World → Prop) (i : Nat) (K : StW) : StW := fun a w =>
  match ops[i]? with
  | none => K a w
  | some o => if eff.contains i then o.guard = none ∧ o.wp P a w (fun a' w' => C w' ∧ K a' w') Q'
    else ∃ v, YldQ P ops C o v a ∧ K (a.put o.dst v) w
theorem cOp_mono {i : Nat} {K K' : StW} {a : Act} {w : World} (h : ∀ a w, K a w → K' a w) (hh : cOp P ops C eff Q' i K a w) : cOp P ops C eff Q' i K' a w := by
  unfold cOp at *
  split
  · rename_i ho; simp only [ho] at hh; exact h _ _ hh
  · rename_i o ho
    simp only [ho] at hh
    split
    · rename_i he; simp only [he, if_true] at hh; exact ⟨hh.1, Oper.wp_mono (fun a w hk => ⟨hk.1, h _ _ hk.2⟩) hh.2⟩
    · rename_i he; simp only [he] at hh; obtain ⟨v, h1, h2⟩ := hh; exact ⟨v, h1, h _ _ h2⟩
def wpC (P : Program) (md : Region.Mode) (ops : Array Oper) (C : World → Prop) (eff : List Nat) (n : Nat) (Q' : Exit → Act → World → Prop) : Nat → Array Bool → StW
  | 0, listed, a, w => Region.ready md ops listed = [] ∧ Q' .normal a w
  | f + 1, listed, a, w => Region.ready md ops listed ≠ [] ∧ ∀ i ∈ Region.ready md ops listed,
      (i < n → cOp P ops C eff Q' i (wpC P md ops C eff n Q' f (listed.setIfInBounds i true)) a w) ∧
      (n ≤ i → wpOp P ops Q' i (wpAny P md ops Q' f (listed.setIfInBounds i true)) a w)

/-- An operation apart from a quiet one: the quiet one's value, put or not, makes no difference to it. -/
theorem cOp_put {j : Nat} {oi oj : Oper} {v : Value} (hj : ops[j]? = some oj) (hap : oi.apart ops oj = true)
    (hsi : ∀ cs b, oi.op ≠ .select cs b) (hsj : ∀ cs b, oj.op ≠ .select cs b) (hQ : ∀ c a w, Q' (.panic c) (a.put oi.dst v) w → Q' (.panic c) a w) {K : StW} {a : Act} {w : World}
    (hy : YldQ P ops C oi v a) (h : cOp P ops C eff Q' j K (a.put oi.dst v) w) :
    cOp P ops C eff Q' j (fun a' w' => YldQ P ops C oi v a' ∧ K (a'.put oi.dst v) w') a w := by
  obtain ⟨h1, h2, h3⟩ := Oper.apart_spec hap
  have keep : ∀ (a : Act), YldQ P ops C oi v a → ∀ u, YldQ P ops C oi v (a.put oj.dst u) := fun a hy u =>
    hy.of_same (execOp_put oi hsi a oj.dst u h3) (wanted_put oi a oj.dst u h3)
  have keepD : ∀ d, YldQ P ops C oi v { a with defers := d :: a.defers } := fun d => hy.of_same rfl rfl
  unfold cOp at *
  simp only [hj] at *
  split
  · rename_i he
    simp only [he, if_true] at h
    obtain ⟨hg, h⟩ := h
    refine ⟨hg, ?_⟩
    unfold Oper.wp at *
    rw [execOp_put oj hsj a oi.dst v h1] at h
    generalize (execOp a.eval oj).run P w = r at *
    cases r with
    | ok x w' =>
      cases x <;> simp only [Oper.upon] at h ⊢
      case value u => exact ⟨h.1, keep a hy u, by rw [← Act.put_comm a v u h2]; exact h.2⟩
      case skip => exact ⟨h.1, keep a hy _, by rw [← Act.put_comm a v undef h2]; exact h.2⟩
      case defer d =>
        refine ⟨h.1, keep _ (keepD d) _, ?_⟩
        rw [← Act.put_comm _ v undef h2, ← Act.put_defers]
        exact h.2
      case enter f args =>
        refine Calls.mono h fun e w'' he => ?_
        cases e with
        | returned u => exact ⟨he.1, keep a hy u, by rw [← Act.put_comm a v u h2]; exact he.2⟩
        | panicked c => exact hQ _ _ _ he
        | outgrown => exact he
      case row row args => exact Rows.mono h fun u w'' he => ⟨he.1, keep a hy u, by rw [← Act.put_comm a v u h2]; exact he.2⟩
    | halt x w' =>
      cases x <;> simp only [Oper.upon] at h ⊢
      case panic u => exact hQ _ _ _ h
  · rename_i he
    simp only [he] at h
    obtain ⟨u, hu, hn⟩ := h
    refine ⟨u, ?_, keep a hy u, by rw [← Act.put_comm a v u h2]; exact hn⟩
    exact hu.of_same (execOp_put oj hsj a oi.dst v h1).symm (wanted_put oj a oi.dst v h1).symm

theorem YldQ.cOp {i : Nat} {o : Oper} {v : Value} {a : Act} {w : World} (hi : ops[i]? = some o) (hne : eff.contains i = false) (hy : YldQ P ops C o v a) {K : StW} (h : K (a.put o.dst v) w) : cOp P ops C eff Q' i K a w := by
  unfold Mono.cOp
  simp only [hi, hne, Bool.false_eq_true, if_false]
  exact ⟨v, hy, h⟩

theorem wpC_first {i : Nat} {oi : Oper} {v : Value} (hi : ops[i]? = some oi) (hne : eff.contains i = false)
    (hsel : ∀ (j : Nat) (o : Oper) cs b, ops[j]? = some o → o.op ≠ .select cs b)
    (hs : sinkL md ops [] n = true) (hc : Region.chainB md ops n = true) (hin : i < n)
    (hQ : ∀ c (a : Act) (d : Tmp) v w, Q' (.panic c) { a with tmps := a.tmps.setIfInBounds d v } w → Q' (.panic c) a w) :
    ∀ (f : Nat) (listed : Array Bool) (a : Act) (w : World), HeadInv md ops n listed →
      (∀ j oj, ops[j]? = some oj → j ≠ i → listed.getD j true = false → (∀ e ∈ oj.after, Region.binds md e = true → e.on ≠ i) → oi.apart ops oj = true) →
      i ∈ Region.ready md ops listed → YldQ P ops C oi v a →
      wpC P md ops C eff n Q' f (listed.setIfInBounds i true) (a.put oi.dst v) w → wpC P md ops C eff n Q' (f + 1) listed a w := by
  intro f
  induction f with
  | zero =>
    intro listed a w inv _ hr hy H
    refine ⟨fun h => (by rw [h] at hr; cases hr), fun j hj => ?_⟩
    by_cases hji : j = i
    · subst hji; exact ⟨fun _ => hy.cOp hi hne H, fun h => absurd hin (by omega)⟩
    · have := ready_mono hj hji
      rw [H.1] at this; cases this
  | succ f ih =>
    intro listed a w inv hfree hr hy H
    have hun := (mem_ready.1 hr).1
    refine ⟨fun h => (by rw [h] at hr; cases hr), fun j hj => ?_⟩
    by_cases hji : j = i
    · subst hji; exact ⟨fun _ => hy.cOp hi hne H, fun h => absurd hin (by omega)⟩
    · have h1 := H.2 j (ready_mono hj hji)
      obtain ⟨hjun, oj, hoj, hall⟩ := mem_ready.1 hj
      have hnot : ∀ e ∈ oj.after, Region.binds md e = true → e.on ≠ i := fun e he hb heq => by
        have h1 := hall e he hb
        rw [heq, getD_both hun] at h1
        cases h1
      have hap := hfree j oj hoj hji hjun hnot
      refine ⟨fun hjn => ?_, fun hnj => absurd hj (tail_waits' hs hc inv _ i rfl hin rfl hun j hnj)⟩
      have h2 := cOp_put hoj hap (fun cs b => hsel i oi cs b hi) (fun cs b => hsel j oj cs b hoj) (hQput hQ _ _) hy (h1.1 hjn)
      refine cOp_mono (fun a' w' h3 => ih (listed.setIfInBounds j true) a' w' (inv.set hj hjn) (free_step hfree) (ready_mono hr (Ne.symm hji)) h3.1 ?_) h2
      rw [Array.setIfInBounds_comm _ _ hji]
      exact h3.2

/-- The walk along an order of one's own. -/
def wpOrd (P : Program) (ops : Array Oper) (C : World → Prop) (eff : List Nat) (Q' : Exit → Act → World → Prop) (Qt : StW) : List Nat → StW
  | [], a, w => Qt a w
  | i :: r, a, w => cOp P ops C eff Q' i (wpOrd P ops C eff Q' Qt r) a w
def ordB (md : Region.Mode) (ops : Array Oper) (eff : List Nat) (n g : Nat) : List Nat → Array Bool → Bool
  | [], listed => Region.seqB md ops g n listed
  | i :: r, listed => decide (i < n) && (Region.ready md ops listed).contains i && (if eff.contains i then decide (Region.ready md ops listed = [i]) else Region.free md ops listed i) && ordB md ops eff n g r (listed.setIfInBounds i true)

theorem wpAny_of_C : ∀ (f : Nat) (listed : Array Bool) (a : Act) (w : World), HeadInv md ops n listed → C w → wpC P md ops C eff n Q' f listed a w → wpAny P md ops Q' f listed a w
  | 0, listed, a, w, _, _, h => h
  | f + 1, listed, a, w, inv, hC, h => by
    refine ⟨fun h0 => absurd h0 h.1, fun i hi => ?_⟩
    obtain ⟨h1, h2⟩ := h.2 i hi
    rcases Nat.lt_or_ge i n with hin | hni
    case inr => exact h2 hni
    have h1 := h1 hin
    have inv' := inv.set hi hin
    obtain ⟨_, o, ho, _⟩ := mem_ready.1 hi
    unfold cOp at h1
    simp only [ho] at h1
    unfold wpOp
    simp only [ho]
    split at h1
    · obtain ⟨hg, h1⟩ := h1
      rw [if_pos (by simp [Region.wanted, hg])]
      exact .inl (Oper.wp_mono (fun a' w' hk => wpAny_of_C f _ a' w' inv' hk.1 hk.2) h1)
    · obtain ⟨v, hy, hK⟩ := h1
      rcases hy with ⟨hw, hv⟩ | ⟨hw, rfl⟩
      · rw [if_pos hw]
        refine .inl ?_
        have h3 := hv w hC
        unfold Oper.wp
        generalize (execOp a.eval o).run P w = r at *
        cases r with
        | ok nx w' =>
          cases nx <;> simp only [quietUpon] at h3 <;> simp only [Oper.upon]
          case value u => obtain ⟨e1, e2⟩ := h3; rw [e1, e2]; exact wpAny_of_C f _ _ _ inv' hC hK
          case skip => obtain ⟨e1, e2⟩ := h3; rw [e1, ← e2]; exact wpAny_of_C f _ _ _ inv' hC hK
        | halt x w' => simp only [quietUpon] at h3
      · rw [if_neg (by rw [hw]; exact Bool.false_ne_true)]
        exact wpAny_of_C f _ _ _ inv' hC hK

theorem wpC_ord {l : List Oper} (hl : ∀ j, l[j]? = ops[n + j]?) (hsel : Region.noSelect ops = true) (hs : sinkL md ops [] n = true) (hc : Region.chainB md ops n = true)
    (hQ : ∀ c (a : Act) (d : Tmp) v w, Q' (.panic c) { a with tmps := a.tmps.setIfInBounds d v } w → Q' (.panic c) a w) :
    ∀ (ord : List Nat) (listed : Array Bool) (a : Act) (w : World), HeadInv md ops n listed → ordB md ops eff n l.length ord listed = true →
      wpOrd P ops C eff Q' (wpList P ops Q' l) ord a w → wpC P md ops C eff n Q' (ord.length + l.length) listed a w
  | [], listed, a, w, inv, hB, h => by
    rw [List.length_nil, Nat.zero_add]
    simp only [ordB] at hB
    have h0 := wpAny_of_seq l n listed a w hl hB h
    cases l with
    | nil => exact ⟨by simpa [Region.seqB] using hB, h⟩
    | cons o l =>
      simp only [List.length_cons, Region.seqB, Bool.and_eq_true, decide_eq_true_eq] at hB
      refine ⟨by rw [hB.1]; simp, fun i hi => ?_⟩
      have hin : i = n := by rw [hB.1] at hi; simpa using hi
      exact ⟨fun hlt => by omega, fun _ => h0.2 i hi⟩
  | i :: r, listed, a, w, inv, hB, h => by
    simp only [ordB, Bool.and_eq_true, decide_eq_true_eq] at hB
    obtain ⟨⟨⟨hin, hr⟩, hf⟩, hB'⟩ := hB
    have hr' : i ∈ Region.ready md ops listed := by simpa using hr
    obtain ⟨_, o, ho, _⟩ := mem_ready.1 hr'
    have inv' := inv.set hr' hin
    rw [List.length_cons, show r.length + 1 + l.length = (r.length + l.length) + 1 by omega]
    have next : ∀ a' w', wpOrd P ops C eff Q' (wpList P ops Q' l) r a' w' → wpC P md ops C eff n Q' (r.length + l.length) (listed.setIfInBounds i true) a' w' :=
      fun a' w' hh => wpC_ord hl hsel hs hc hQ r _ a' w' inv' hB' hh
    simp only [wpOrd] at h
    cases he : eff.contains i with
    | false =>
      rw [he] at hf
      simp only [Bool.false_eq_true, if_false] at hf
      unfold cOp at h
      simp only [ho, he, Bool.false_eq_true, if_false] at h
      obtain ⟨v, hy, hK⟩ := h
      exact wpC_first ho he (Region.noSelect_spec hsel) hs hc hin hQ _ listed a w inv (Region.free_spec ho hf) hr' hy (next _ _ hK)
    | true =>
      rw [he] at hf
      simp only [if_true, decide_eq_true_eq] at hf
      refine ⟨by rw [hf]; simp, fun j hj => ?_⟩
      have hji : j = i := by rw [hf] at hj; simpa using hj
      subst hji
      exact ⟨fun _ => cOp_mono next h, fun hh => absurd hin (by omega)⟩

def seqsB (ops : Array Oper) (eff ord : List Nat) (n : Nat) : Bool :=
  Region.noSelect ops && decide (n ≤ ops.size) && decide (ord.length = n) && sinkL .any ops [] n && Region.chainB .any ops n && ordB .any ops eff n (ops.size - n) ord (Array.replicate ops.size false)

theorem wpAny_seq {a : Act} {w : World} {l : List Oper} (eff ord : List Nat) (n : Nat) (C : World → Prop)
    (hB : seqsB l.toArray eff ord n = true) (hQ : ∀ c (a : Act) (d : Tmp) v w, Q' (.panic c) { a with tmps := a.tmps.setIfInBounds d v } w → Q' (.panic c) a w) (hC : C w)
    (h : wpOrd P l.toArray C eff Q' (wpList P l.toArray Q' (l.drop n)) ord a w) : wpAny P .any l.toArray Q' l.toArray.size (Array.replicate l.toArray.size false) a w := by
  simp only [seqsB, Bool.and_eq_true, decide_eq_true_eq] at hB
  obtain ⟨⟨⟨⟨⟨hsel, hn⟩, ho⟩, hs⟩, hc⟩, hord⟩ := hB
  have hn' : n ≤ l.length := by simpa using hn
  have hdl : (l.drop n).length = l.toArray.size - n := by simp
  have inv0 : HeadInv .any l.toArray n (Array.replicate l.toArray.size false) :=
    ⟨by simp, fun j oj _ hl => (by rw [getD_replicate_false] at hl; cases hl), fun t _ ht => getD_in (by simpa using ht) (getD_replicate_false _ _)⟩
  have H := wpC_ord (md := .any) (C := C) (eff := eff) (l := l.drop n) (fun j => by simp [List.getElem?_drop]) hsel hs hc hQ ord _ a w inv0 (by rw [hdl]; exact hord) h
  have := wpAny_of_C _ _ a w inv0 hC H
  rw [hdl, ho, show n + (l.toArray.size - n) = l.toArray.size by omega] at this
  exact this

/-- THE RULE. -/
theorem wp_region_seq {id : Nat} {Q : Exit → Act → World → Prop} {a : Act} {w : World} {l : List Oper} (eff ord : List Nat) (n : Nat) (C : World → Prop) (hm : P.follows .mixedOrders = true)
    (hB : seqsB l.toArray eff ord n = true) (hQ : ∀ c (a : Act) (d : Tmp) v w, Q (.panic c) { a with tmps := a.tmps.setIfInBounds d v } w → Q (.panic c) a w) (hC : C w.drew)
    (h : wpOrd P l.toArray C eff Q (wpList P l.toArray Q (l.drop n)) ord a w.drew) : (Code.region id l.toArray true).wp P Q a w :=
  wp_region_any hm (wpAny_seq eff ord n C hB hQ hC h)

/-! ### Into a round -/
def notDefer (o : Oper) : Bool := match o.op with | .defer _ => false | _ => true
theorem rowsIn_of (l : Nat) {m : Nat} {row : String} {args : Array Value} {w : World} {R : Value → World → Prop} (h : Rows P row args w R) : RowsIn (Fence.wide.inRound l) m P row args w R :=
  fun c cs _ => let ⟨v, w', r, s⟩ := h c cs; ⟨v, w', r, stepsIn_wide.2 s⟩
theorem wpAnyIn_of_any (l : Nat) {m : Nat} (hd : ops.all notDefer = true) (hL : ¬ LetsOut Q') : ∀ (f : Nat) (listed : Array Bool) (a : Act) (w : World), wpAny P md ops Q' f listed a w → wpAnyIn (Fence.wide.inRound l) m P md ops Q' f listed a w
  | 0, _, _, _, h => h
  | f + 1, listed, a, w, h => by
    refine ⟨h.1, fun i hi => ?_⟩
    have h1 := h.2 i hi
    unfold wpOp at h1
    unfold wpOpIn
    cases ho : ops[i]? with
    | none => simp only [ho] at h1 ⊢; exact wpAnyIn_of_any l hd hL f _ _ _ h1
    | some o =>
      simp only [ho] at h1 ⊢
      have hnd : ∀ c, o.op ≠ .defer c := fun c hc => by
        have := Array.all_eq_true'.1 hd o (Array.mem_of_getElem? ho)
        unfold notDefer at this
        rw [hc] at this
        cases this
      split at h1
      · rename_i hw
        rw [if_pos hw]
        rcases h1 with h1 | ⟨_, hl⟩
        case inr => exact absurd hl hL
        refine ⟨fun _ _ => trivial, ?_⟩
        rw [Oper.semAt_eq _ _ _ hnd]
        unfold Oper.wp at h1
        generalize (execOp a.eval o).run P w = r at *
        cases r with
        | ok x w' =>
          cases x <;> simp only [Oper.upon] at h1 <;> simp only [Oper.uponIn]
          case value u => exact wpAnyIn_of_any l hd hL f _ _ _ h1
          case skip => exact wpAnyIn_of_any l hd hL f _ _ _ h1
          case defer d => exact wpAnyIn_of_any l hd hL f _ _ _ h1
          case enter g args =>
            refine ⟨fun hh => by simp [Fence.wide] at hh, CallsIn.inRound l (callsIn_wide.2 (h1.mono fun e w'' he => ?_))⟩
            cases e with
            | returned u => exact wpAnyIn_of_any l hd hL f _ _ _ he
            | panicked c => exact he
            | outgrown => exact he
          case row row args =>
            exact ⟨fun hh => by simp [Fence.wide] at hh, rowsIn_of l (h1.mono fun u w'' he => wpAnyIn_of_any l hd hL f _ _ _ he)⟩
        | halt x w' =>
          cases x <;> simp only [Oper.upon] at h1 <;> simp only [Oper.uponIn]
          case panic u => exact h1
      · rename_i hw
        rw [if_neg hw]
        exact ⟨fun _ _ => trivial, wpAnyIn_of_any l hd hL f _ _ _ h1⟩
theorem wpIn_region_seq (lr : Nat) {m : Nat} {id : Nat} {Q : Exit → Act → World → Prop} {a : Act} {w : World} {l : List Oper} (eff ord : List Nat) (n : Nat) (C : World → Prop) (hm : P.follows .mixedOrders = true)
    (hB : seqsB l.toArray eff ord n = true) (hd : l.toArray.all notDefer = true) (hL : ¬ LetsOut Q) (hQ : ∀ c (a : Act) (d : Tmp) v w, Q (.panic c) { a with tmps := a.tmps.setIfInBounds d v } w → Q (.panic c) a w) (hC : C w.drew)
    (h : wpOrd P l.toArray C eff Q (wpList P l.toArray Q (l.drop n)) ord a w.drew) : (Code.region id l.toArray true).wpIn (Fence.wide.inRound lr) m P Q a w :=
  wpIn_region_any hm (wpAnyIn_of_any lr hd hL _ _ _ _ (wpAny_seq eff ord n C hB hQ hC h))
end

/-! ### The steps of the walk -/
section
variable {P : Program} {ops : Array Oper} {C : World → Prop} {eff : List Nat} {Q' : Exit → Act → World → Prop} {Qt : StW} {o : Oper} {r : List Nat} {i : Nat} {a : Act} {w : World} {v : Value}
theorem ord_nil (h : Qt a w) : wpOrd P ops C eff Q' Qt [] a w := h
theorem ord_val (hi : ops[i]? = some o) (hne : eff.contains i = false) (hw : Region.wanted o (yielded ops a.tmps) = true) (h : ∀ w, C w → (execOp a.eval o).run P w = .ok (.value v) w)
    (hk : wpOrd P ops C eff Q' Qt r (a.put o.dst v) w) : wpOrd P ops C eff Q' Qt (i :: r) a w :=
  YldQ.cOp hi hne (.inl ⟨hw, fun w hC => by rw [h w hC]; exact ⟨rfl, rfl⟩⟩) hk
theorem ord_skip (hi : ops[i]? = some o) (hne : eff.contains i = false) (hw : Region.wanted o (yielded ops a.tmps) = true) (h : ∀ w, C w → (execOp a.eval o).run P w = .ok .skip w)
    (hk : wpOrd P ops C eff Q' Qt r (a.put o.dst undef) w) : wpOrd P ops C eff Q' Qt (i :: r) a w :=
  YldQ.cOp hi hne (.inl ⟨hw, fun w hC => by rw [h w hC]; exact ⟨rfl, rfl⟩⟩) hk
theorem ord_not (hi : ops[i]? = some o) (hne : eff.contains i = false) (hw : Region.wanted o (yielded ops a.tmps) = false)
    (hk : wpOrd P ops C eff Q' Qt r (a.put o.dst undef) w) : wpOrd P ops C eff Q' Qt (i :: r) a w :=
  YldQ.cOp hi hne (.inr ⟨hw, rfl⟩) hk
/-- An operation that changes the world, by its run. -/
theorem ord_run {w' : World} (hi : ops[i]? = some o) (hne : eff.contains i = true) (hg : o.guard = none) (h : (execOp a.eval o).run P w = .ok (.value v) w') (hC : C w')
    (hk : wpOrd P ops C eff Q' Qt r (a.put o.dst v) w') : wpOrd P ops C eff Q' Qt (i :: r) a w := by
  unfold wpOrd cOp
  simp only [hi, hne, if_true]
  refine ⟨hg, ?_⟩
  unfold Oper.wp
  rw [h]
  exact ⟨hC, hk⟩
/-- A call. -/
theorem ord_call {f : FuncId} {args : Array Value} (hi : ops[i]? = some o) (hne : eff.contains i = true) (hg : o.guard = none) (h : (execOp a.eval o).run P w = .ok (.enter f args) w)
    (hc : Calls P f args w (fun e w'' => ∃ v, e = .returned v ∧ C w'' ∧ wpOrd P ops C eff Q' Qt r (a.put o.dst v) w'')) : wpOrd P ops C eff Q' Qt (i :: r) a w := by
  unfold wpOrd cOp
  simp only [hi, hne, if_true]
  refine ⟨hg, ?_⟩
  unfold Oper.wp
  rw [h]
  refine Calls.mono hc ?_
  rintro e w'' ⟨v, rfl, h1, h2⟩
  exact ⟨h1, h2⟩
/-- An operation that changes the world, by whatever law it has. -/
theorem ord_wp (hi : ops[i]? = some o) (hne : eff.contains i = true) (hg : o.guard = none) (h : o.wp P a w (fun a' w' => C w' ∧ wpOrd P ops C eff Q' Qt r a' w') Q') : wpOrd P ops C eff Q' Qt (i :: r) a w := by
  unfold wpOrd cOp
  simp only [hi, hne, if_true]
  exact ⟨hg, h⟩
end
section
variable {P : Program} {ops : Array Oper} {Q : Exit → Act → World → Prop} {o : Oper} {rest : List Oper} {a : Act} {w : World} {v : Value}
theorem seq_val (hw : Region.wanted o (yielded ops a.tmps) = true) (h : (execOp a.eval o).run P w = .ok (.value v) w)
    (hk : wpList P ops Q rest (a.put o.dst v) w) : wpList P ops Q (o :: rest) a w := by
  unfold wpList
  rw [if_pos hw]
  refine .inl ?_
  unfold Oper.wp
  rw [h]
  exact hk
theorem seq_run {w' : World} (hw : Region.wanted o (yielded ops a.tmps) = true) (h : (execOp a.eval o).run P w = .ok (.value v) w')
    (hk : wpList P ops Q rest (a.put o.dst v) w') : wpList P ops Q (o :: rest) a w := by
  unfold wpList
  rw [if_pos hw]
  refine .inl ?_
  unfold Oper.wp
  rw [h]
  exact hk
theorem seq_not (hw : Region.wanted o (yielded ops a.tmps) = false)
    (hk : wpList P ops Q rest (a.put o.dst undef) w) : wpList P ops Q (o :: rest) a w := wpList_skip hw hk
theorem seq_call {f : FuncId} {args : Array Value} (hw : Region.wanted o (yielded ops a.tmps) = true) (h : (execOp a.eval o).run P w = .ok (.enter f args) w)
    (hc : Calls P f args w (fun e w' => e = .returned v ∧ Below w.heap.size w w')) (hk : ∀ w', Below w.heap.size w w' → wpList P ops Q rest (a.put o.dst v) w') : wpList P ops Q (o :: rest) a w := by
  unfold wpList
  rw [if_pos hw]
  refine .inl ?_
  unfold Oper.wp
  rw [h]
  refine hc.mono fun e w' ⟨he, hb⟩ => ?_
  subst he
  exact hk w' hb
/-- A call that leaves the world as it was. -/
theorem seq_same {f : FuncId} {args : Array Value} (hw : Region.wanted o (yielded ops a.tmps) = true) (h : (execOp a.eval o).run P w = .ok (.enter f args) w)
    (hc : Calls P f args w (fun e w' => e = .returned v ∧ w' = w)) (hk : wpList P ops Q rest (a.put o.dst v) w) : wpList P ops Q (o :: rest) a w := by
  unfold wpList
  rw [if_pos hw]
  refine .inl ?_
  unfold Oper.wp
  rw [h]
  refine hc.mono fun e w' ⟨he, hb⟩ => ?_
  subst he
  subst hb
  exact hk
theorem seq_skip {w' : World} (hw : Region.wanted o (yielded ops a.tmps) = true) (h : (execOp a.eval o).run P w = .ok .skip w')
    (hk : wpList P ops Q rest (a.put o.dst undef) w') : wpList P ops Q (o :: rest) a w := by
  unfold wpList
  rw [if_pos hw]
  refine .inl ?_
  unfold Oper.wp
  rw [h]
  exact hk
theorem exec_append {ρ : Operand → Value} {sl x : Operand} {t u : TypeId} {v y v' : Value} {w' : World} (ho : o.op = .call { callee := .builtin .append, args := #[sl, x], argTypes := #[t, u] })
    (hs : ρ sl = v) (hx : ρ x = y) (hr : (Builtin.append_ #[t, u] o.type #[v, y]).run P w = .ok v' w') : (execOp ρ o).run P w = .ok (.value v') w' := by
  unfold execOp
  simp only [ho, resolve, invoke, builtin, Sem.run_bind, Sem.run_pure, Result.andThen_ok, List.map_toArray, List.map_cons, List.map_nil, hs, hx, hr]
/-- How long a row is. -/
theorem exec_len {ρ : Operand → Value} {x : Operand} {t : TypeId} {B e size n : Nat} {xs : List Value} (ho : o.op = .call { callee := .builtin .len, args := #[x], argTypes := #[t] })
    (hu : P.underlying t = some (.slice e)) (hx : ρ x = v) (hown : w.ownsRow B e size v n xs) (w1 : World) : (execOp ρ o).run P w1 = .ok (.value (.int .i64 n)) w1 := by
  unfold execOp
  rcases hown.2 with ⟨h1, h2⟩ | ⟨g, cap, cur, h1, _⟩
  · subst h1; subst h2
    simp only [ho, resolve, invoke, builtin, Sem.run_bind, Sem.run_pure, Result.andThen_ok, List.map_toArray, List.map_cons, List.map_nil, hx]
    simp [Builtin.len_, run_underlying hu, Result.andThen, Sem.run_pure, goInt]
  · subst h1
    simp only [ho, resolve, invoke, builtin, Sem.run_bind, Sem.run_pure, Result.andThen_ok, List.map_toArray, List.map_cons, List.map_nil, hx]
    simp [Builtin.len_, run_underlying hu, Result.andThen, Sem.run_pure, goInt]
end
end Go.Mono
