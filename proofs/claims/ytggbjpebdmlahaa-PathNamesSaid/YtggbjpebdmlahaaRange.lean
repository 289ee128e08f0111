/- A range over a function whose iterator and body share cells: the statement by the iterator's own call, each round a step of it; no protocol between them is asked. No conditions. -/
import Derived.RangeFuncNested
import Derived.RangeFuncBound
import Derived.RangeFuncCalls
import Derived.RangeFuncLeaves
import Derived.StillTail
namespace Go.Mono
open Go Go.RowKit
/-- What a round leaves: the record busy as it was; yield's answer in the world with the record turned. -/
def rawPost (l : Nat) (rec : LoopState → Option Code → Loop) (K : Ending → World → Prop) : Exit → Act → World → Prop
  | .normal, _, W => W.heap[l]? = some (.loop (rec .busy none)) ∧ K (.returned (.bool true)) (W.putObj l (.loop (rec .ready none)))
  | .ret, _, W => W.heap[l]? = some (.loop (rec .busy none)) ∧ K (.returned (.bool false)) (W.putObj l (.loop (rec .done (some .ret))))
  | .exit id, _, W => W.heap[l]? = some (.loop (rec .busy none)) ∧ K (.returned (.bool false)) (W.putObj l (.loop (rec .done (some (.exit id)))))
  | .goto t, _, W => W.heap[l]? = some (.loop (rec .busy none)) ∧ K (.returned (.bool false)) (W.putObj l (.loop (rec .done (some (.goto t)))))
  | .panic _, _, _ => False
  | .outgrown, _, _ => False
/-- A round's walk, from yield's call on. -/
def RawRound (F : Fence) (m : Nat) (P : Program) (l : Nat) (ps : Array Tmp) (assign body : Code) (tmps : Array Value) (rec : LoopState → Option Code → Loop) (args : Array Value) (W : World) (K : Ending → World → Prop) : Prop :=
  assign.wpIn (F.inRound l) m P (Exit.then (fun a' Wa => Wa.heap[l]? = some (.loop (rec .ready none)) ∧ body.wpIn (F.inRound l) m P (rawPost l rec K) a' (Wa.putObj l (.loop (rec .busy none)))) (fun _ _ _ => False))
    { tmps := (ps.zip args).foldl (fun t (p, v) => t.setIfInBounds p v) tmps, defers := [] } W
variable {F : Fence} {n : Nat} {P : Program}
theorem wpIn_rangeFunc_raw {g : Operand} {ps : Array Tmp} {assign body : Code} {Q : Exit → Act → World → Prop} {a : Act} {w : World}
    (hro : F.round = none) (h1 : 1 ≤ n) {gf : Nat} {lb : Array Value} (hg : a.eval g = .func (.func gf) #[] lb) (hFg : F.fn gf) (eg : ∀ args w, (callFunc gf args).run P w = .ok (.enter gf args) w)
    (hcall : ∀ (rec : LoopState → Option Code → Loop) (W1 : World), W1 = (w.alloc (.deferred (some []))).alloc (.loop (rec .ready none)) →
      (∀ (args : Array Value) (W : World) (K : Ending → World → Prop), args.size = ps.size → W.heap[w.heap.size + 1]? = some (.loop (rec .ready none)) →
        RawRound F (n - 1 - 1) P (w.heap.size + 1) ps assign body a.tmps rec args W K → YieldAt F (n - 1 - 1) P (w.heap.size + 1) args W K) →
      CallsIn F (n - 1) P gf (#[.func (.yield (w.heap.size + 1)) #[] #[]] ++ lb) W1 (fun e W2 => (∃ v, e = .returned v) ∧
        ((W2.heap[w.heap.size + 1]? = some (.loop (rec .ready none)) ∧ Q .normal { a with defers := { target := .collected w.heap.size, args := #[] } :: a.defers } (W2.putObj (w.heap.size + 1) (.loop (rec .exhausted none)))) ∨
          ∃ c, W2.heap[w.heap.size + 1]? = some (.loop (rec .done (some c))) ∧
            c.wpIn F n P Q { a with defers := { target := .collected w.heap.size, args := #[] } :: a.defers } (W2.putObj (w.heap.size + 1) (.loop (rec .exhausted (some c))))))) :
    (Code.rangeFunc g ps assign body).wpIn F n P Q a w := by
  refine wpIn_rangeFunc ?_
  intro fn hfn
  rw [hro]
  obtain ⟨rec, hrec⟩ : ∃ rec : LoopState → Option Code → Loop, rec = fun st pe => { state := st, pending := pe, fn, tmps := a.tmps, params := ps, assign, body, defers := w.heap.size } := ⟨_, rfl⟩
  obtain ⟨W1, hW1⟩ : ∃ W1, (w.alloc (.deferred (some []))).alloc (.loop (rec .ready none)) = W1 := ⟨_, rfl⟩
  refine ⟨w.heap.size + 1, [{ target := .collected w.heap.size, args := #[] }], W1, { target := .fn (.func gf) lb, args := #[.func (.yield (w.heap.size + 1)) #[] #[]] }, W1, gf,
    #[.func (.yield (w.heap.size + 1)) #[] #[]] ++ lb, W1, ?_, ?_, ?_, ?_, fun _ => h1, ?_⟩
  · rw [← hW1, hrec]; exact run_enterLoop_outer _ _ _ _ _
  · simp only [resolve, hg]
    simp [go_sem]
  · intro f' hf'; simp [Target.leads] at hf'; subst hf'; exact hFg
  · simp [invoke, go_sem, eg]
  · refine (hcall rec W1 hW1.symm ?_).mono ?_
    · intro args W K hsz hl hR
      have hlt : w.heap.size + 1 < W.heap.size := (Array.getElem?_eq_some_iff.1 hl).1
      have hy := run_yield (P := P) (args := args) hl (by rw [hrec]; exact hsz)
      rw [hrec] at hy
      refine ⟨fn, _, assign, body, hy, roundIn_of_wpIn hfn (wpIn_mono hR ?_)⟩
      rintro e a' Wa hp
      cases e with
      | normal =>
        obtain ⟨hla, hb⟩ := hp
        refine ⟨_, by have := run_beginRound (P := P) hla (by rw [hrec]); rw [hrec] at this; exact this, ?_⟩
        rw [hrec] at hb
        refine wpIn_mono hb ?_
        rintro e2 a2 W3 hp2
        cases e2 with
        | normal => obtain ⟨h3, hk⟩ := hp2; exact ⟨_, _, run_endRound none h3, hk⟩
        | ret => obtain ⟨h3, hk⟩ := hp2; exact ⟨_, _, run_endRound (some .ret) h3, hk⟩
        | exit id => obtain ⟨h3, hk⟩ := hp2; exact ⟨_, _, run_endRound (some (.exit id)) h3, hk⟩
        | goto t => obtain ⟨h3, hk⟩ := hp2; exact ⟨_, _, run_endRound (some (.goto t)) h3, hk⟩
        | panic ch => exact hp2.elim
        | outgrown => exact hp2.elim
      | ret => exact hp.elim
      | exit id => exact hp.elim
      | goto t => exact hp.elim
      | panic ch => exact hp.elim
      | outgrown => exact hp.elim
    · rintro e W2 ⟨⟨v, rfl⟩, (⟨hl, hq⟩ | ⟨c, hl, hq⟩)⟩
      · exact ⟨none, _, by have := run_endLoop (P := P) hl (by rw [hrec]; simp); rw [hrec] at this; exact this, by rw [hrec] at hq; exact hq⟩
      · exact ⟨some c, _, by have := run_endLoop (P := P) hl (by rw [hrec]; simp); rw [hrec] at this; exact this, by rw [hrec] at hq; exact hq⟩
end Go.Mono
