/- field.falling, field.power, field.Inv: the bits of a number, the highest first; powers modulo the prime. No conditions beyond numbers of 256 bits. -/
import Derived.Test.YtdhaedjmlddjcaaFieldE
import Derived.Test.YtdhaedjmlddjcaaIter
namespace Go.Proofs.Ytdhaedjmlddjcaa
open Go.RowKit Go.Mono Go.Num
attribute [local go_sem] Oper.semAt_some

set_option maxHeartbeats 1000000 in
theorem fieldFalling_stops (F : Fence) (n : Nat) (hF : F.fn 74) (hro : F.round = none) (hn : 1 ≤ n) (nb N : Nat) (w : World) (hN : w.heap[nb]? = some (.cells (cells4 N) 26)) :
    SeqStopsK F n Try.prog 74 #[.pointer (some ⟨nb, 0, none⟩)] (fun b : Bool => #[Value.bool b]) (KeepB nb) (fun xs => xs = hiBits N 0) (fun pre => pre <+: hiBits N 0) 256 w := fun l J Jx W hW _ _ hY h0 => by
  have hN1 : W.heap[nb]? = some (.cells (cells4 N) 26) := keep hW hN
  clear hN
  refine callsIn_of_wp Try.func74 rfl hF ?_ hro
  simp only [Try.ntmps74, List.size_toArray, List.length_cons, List.length_nil, Nat.reduceAdd, Nat.reduceSub, Array.replicate_succ, Array.replicate_zero, List.push_toArray, List.append_toArray, List.nil_append, List.cons_append]
  gi_wp2
  gi_loopw [3] (fun s wr => ∃ m : Nat, m ≤ 256 ∧ s = .int .i64 ((m : Int) - 1) ∧ wr.heap[nb]? = some (.cells (cells4 N) 26) ∧ J (hiBits N m) wr) (fun s _ => (intOf s + 1).toNat)
  case atStart => exact ⟨256, by omega, rfl, hN1, h0⟩
  case round =>
    obtain ⟨m, hm, rfl, hN, hJs⟩ := hrel
    cases m with
    | zero =>
      gi_wp2
      go_end0
      exact ⟨⟨_, rfl⟩, .inl ⟨_, rfl, hJs⟩⟩
    | succ i =>
      rw [show ((i + 1 : Nat) : Int) - 1 = i by omega]
      have hc := cell4 hN (i / 64) (by omega)
      have hbit := bit_walk N i
      have hpre : hiBits N i <+: hiBits N 0 := by
        unfold hiBits
        refine List.IsPrefix.map _ ?_
        rw [show 256 - 0 = (256 - i) + i by omega, List.range_add]
        exact List.prefix_append _ _
      obtain ⟨fn, tmps, assign, body, hy, hR⟩ := hY (hiBits N (i + 1)) (N.testBit i) wr hJs (by rw [hiBits_length]; omega)
      rw [← hiBits_step N i (by omega)] at hR
      have Hpre := Lib.hid hpre
      clear hpre
      gi_wp2
      refine hR.mono ?_
      rintro e W3 (⟨rfl, hJ3, hk3⟩ | ⟨rfl, hJx3⟩)
      · have hN3 := hk3 _ hN
        gi_wp2
        go_roundw
        case rel => exact ⟨i, by omega, rfl, hN3, hJ3⟩
        case measure => simp [intOf]
      · gi_wp2
        refine bodyPost_ret (results_none rfl _ _ _) rfl ?_
        exact ⟨⟨_, rfl⟩, .inr ⟨_, Hpre.out, hJx3⟩⟩

set_option maxHeartbeats 400000 in
theorem fieldFalling_any (n : Nat) (w : World) :
    Calls Try.prog 72 #[num n] w fun e w' => e = .returned (.func (.func 74) #[] #[.pointer (some ⟨w.heap.size, 0, none⟩)]) ∧ w' = w.alloc (.cells (cells4 n) 26) := by
  go_enter Try.func72, Try.ntmps72
  go_wp2
  go_ret
  exact ⟨rfl, rfl⟩

theorem num_one : num 1 = .agg #[.int .u64 1, .int .u64 0, .int .u64 0, .int .u64 0] :=
  num_of (by decide +kernel) (by decide +kernel) (by decide +kernel) (by decide +kernel)
theorem cells4_one : cells4 1 = #[.int .u64 1, .int .u64 0, .int .u64 0, .int .u64 0] := by
  unfold cells4
  rw [show wd 1 0 = 1 by decide +kernel, show wd 1 1 = 0 by decide +kernel, show wd 1 2 = 0 by decide +kernel, show wd 1 3 = 0 by decide +kernel]; rfl

set_option maxHeartbeats 1000000 in
theorem power_any (a n : Nat) (w : World) (ha : a < W ^ 4) :
    Calls Try.prog 67 #[num a, num n] w fun e w' => e = .returned (num (powF a n)) ∧ Below w.heap.size w w' := by
  have Ha := Lib.hid ha
  clear ha
  refine (callsIn_wide (n := 3)).1 ?_
  refine callsIn_of_wp_marks Try.func67 rfl trivial ?_ rfl
  simp only [Try.ntmps67, List.size_toArray, List.length_cons, List.length_nil, Nat.reduceAdd, Nat.reduceSub, Array.replicate_succ, Array.replicate_zero, List.push_toArray, List.append_toArray, List.nil_append, List.cons_append]
  gi_wp2_with (refine ⟨trivial, ?_⟩; gi_at_call 72; refine (callsIn_wide.2 (fieldFalling_any n _)).mono ?_; rintro e w1 ⟨rfl, rfl⟩)
  obtain ⟨w1, hw1⟩ : ∃ w1, (((((w.alloc (.cells #[.int .u64 (wd a 0), .int .u64 (wd a 1), .int .u64 (wd a 2), .int .u64 (wd a 3)] 26)).alloc (.cells #[.int .u64 (wd n 0), .int .u64 (wd n 1), .int .u64 (wd n 2), .int .u64 (wd n 3)] 26)).alloc (.cells #[.int .u64 0, .int .u64 0, .int .u64 0, .int .u64 0] 26)).alloc (.cells #[.int .u64 1, .int .u64 0, .int .u64 0, .int .u64 0] 26)).alloc (.cells (cells4 n) 26)) = w1 := ⟨_, rfl⟩
  have ha1 : w1.heap[w.heap.size]? = some (.cells (cells4 a) 26) := by rw [← hw1]; exact hp_old _ (hp_old _ (hp_old _ (hp_old _ (hp_new _ rfl))))
  have hz1 : w1.heap[w.heap.size + 1 + 1]? = some (.cells #[.int .u64 0, .int .u64 0, .int .u64 0, .int .u64 0] 26) := by rw [← hw1]; exact hp_old _ (hp_old _ (hp_new _ (by simp)))
  have ho1 : w1.heap[w.heap.size + 1 + 1 + 1]? = some (.cells (cells4 1) 26) := by rw [← hw1, cells4_one]; exact hp_old _ (hp_new _ (by simp))
  have hn1 : w1.heap[w.heap.size + 1 + 1 + 1 + 1]? = some (.cells (cells4 n) 26) := by rw [← hw1]; exact hp_new _ (by simp)
  have hs1 : w1.heap.size = w.heap.size + 5 := by rw [← hw1]; simp
  have hb1 : Below w.heap.size w w1 := by
    rw [← hw1]; exact (((((Below.refl _ _).alloc (Nat.le_refl _) _).alloc (by simp) _).alloc (by simp; omega) _).alloc (by simp; omega) _).alloc (by simp; omega) _
  rw [hw1]
  clear hw1
  refine wpIn_rangeFunc_ownF rfl (by omega) (gf := 74) (lb := #[.pointer (some ⟨w.heap.size + 1 + 1 + 1 + 1, 0, none⟩)]) rfl trivial (enters_of Try.func74 (by kernel_rfl) rfl)
    (fieldFalling_stops Fence.wide _ trivial rfl (by omega) (w.heap.size + 1 + 1 + 1 + 1) n w1 hn1) keepB_t (keepB_b (by omega)) (Below.refl _ _) (fun _ => rfl)
    (fun pre X => (X.heap[w.heap.size]? = some (.cells (cells4 a) 26) ∧ X.heap[w.heap.size + 1 + 1]? = some (.cells #[.int .u64 0, .int .u64 0, .int .u64 0, .int .u64 0] 26) ∧ X.heap[w.heap.size + 1 + 1 + 1]? = some (.cells (cells4 (pre.foldl (sqm a) 1)) 26)) ∧ Below w.heap.size w X)
    (fun _ _ _ => False)
    (OwnFrom.and (Own.from (fun s A B row hs hg hr => ⟨hp_kept hs.1 hg hr, hp_kept hs.2.1 hg hr, hp_kept hs.2.2 hg hr⟩) _) (ownFrom_below (Nat.le_refl _) (by omega)))
    (fun _ _ _ _ _ hs _ _ => hs)
    ⟨⟨ha1, hz1, ho1⟩, hb1⟩
    (fun x => { tmps := #[num a, num n, .pointer (some ⟨w.heap.size, 0, none⟩), .pointer (some ⟨w.heap.size + 1, 0, none⟩), .pointer (some ⟨w.heap.size + 1 + 1, 0, none⟩), .pointer (some ⟨w.heap.size + 1 + 1 + 1, 0, none⟩), .bool x,
      .agg #[.int .u64 1, .int .u64 0, .int .u64 0, .int .u64 0], num n, .func (.func 74) #[] #[.pointer (some ⟨w.heap.size + 1 + 1 + 1 + 1, 0, none⟩)], .bool x, undef, undef, undef, undef, undef, undef, undef, undef], defers := [] }) ?assign ?body ?done ?stop
  case assign =>
    intro l x W K hK
    gi_wp2
    exact hK
  case body =>
    rintro l pre x X ⟨⟨hA, hZ, hO⟩, hB⟩ _
    have hol := Lib.hid (lt_W (foldl_lt a pre))
    have hcO := cell4 hO
    have Hlt := Lib.hid (Go.Mono.lt_of_some hO)
    gi_wp2_with fail
    refine ⟨trivial, ?_⟩
    refine (CallsIn.inRound l (callsIn_wide.2 (mul_f (pre.foldl (sqm a) 1) (pre.foldl (sqm a) 1) X hol.out hol.out))).mono ?_
    rintro e X2 ⟨rfl, hb2⟩
    have hA2 := keep hb2 hA
    have hZ2 := keep hb2 hZ
    have hO2 := keep hb2 hO
    have hB2 := below_tr' hB hb2
    have hk2 : KeepsOthers X X2 := keepsOthers_of_below hb2
    have hq2 : KeepB (w.heap.size + 1 + 1 + 1 + 1) X X2 := keepB_of_below hb2
    clear hA hZ hO hB hcO hb2
    have cO := cell4 hO2
    have cOf := frozen_of hO2
    have hsq : fmul (pre.foldl (sqm a) 1) (pre.foldl (sqm a) 1) < p := fmul_lt _ _
    have Hsq := Lib.hid (lt_W hsq)
    have hA3 := st4_other (b := w.heap.size + 1 + 1 + 1) (n := fmul (pre.foldl (sqm a) 1) (pre.foldl (sqm a) 1)) hA2 (by omega)
    have hZ3 := st4_other (b := w.heap.size + 1 + 1 + 1) (n := fmul (pre.foldl (sqm a) 1) (pre.foldl (sqm a) 1)) hZ2 (by omega)
    have hO3 := st4_at (n := fmul (pre.foldl (sqm a) 1) (pre.foldl (sqm a) 1)) hO2
    have hB3 := st4_below (b := w.heap.size + 1 + 1 + 1) (n := fmul (pre.foldl (sqm a) 1) (pre.foldl (sqm a) 1)) hB2 (by omega)
    have hk3 : KeepsOthers X2 (st4 X2 (w.heap.size + 1 + 1 + 1) (fmul (pre.foldl (sqm a) 1) (pre.foldl (sqm a) 1))) := st4_keeps _ _ _
    have hq3 := hq2.st4 (b := w.heap.size + 1 + 1 + 1) (n := fmul (pre.foldl (sqm a) 1) (pre.foldl (sqm a) 1)) (by omega)
    have hcA := cell4 hA2
    clear hsq hA2 hZ2 hB2 hq2
    have hfold : ∀ b : Bool, (pre ++ [b]).foldl (sqm a) 1 = sqm a (pre.foldl (sqm a) 1) b := fun b => by rw [List.foldl_append]; rfl
    have Hfold := Lib.hid hfold
    clear hfold
    generalize pre.foldl (sqm a) 1 = o at *
    cases x with
    | false =>
      gi_wp2
      simp only [st4_eq]
      have := Hfold.out false
      rw [show sqm a o false = fmul o o from rfl] at this
      exact ⟨hk2.trans hk3, hq3, ⟨hA3, hZ3, by rw [this]; exact hO3⟩, hB3⟩
    | true =>
      gi_wp2_with fail
      simp only [st4_eq]
      clear cO cOf hO2 hcA
      generalize st4 X2 (w.heap.size + 1 + 1 + 1) (fmul o o) = X3 at *
      refine ⟨trivial, ?_⟩
      refine (CallsIn.inRound l (callsIn_wide.2 (mul_f (fmul o o) a X3 Hsq.out Ha.out))).mono ?_
      rintro e X4 ⟨rfl, hb4⟩
      have hA4 := keep hb4 hA3
      have hZ4 := keep hb4 hZ3
      have hO4 := keep hb4 hO3
      have hB4 := below_tr' hB3 hb4
      have hk4 : KeepsOthers X3 X4 := keepsOthers_of_below hb4
      have hq4 := keepB_t hq3 (keepB_of_below hb4)
      clear hA3 hZ3 hO3 hB3 hb4 hq3
      have cO := cell4 hO4
      have cOf := frozen_of hO4
      have hA5 := st4_other (b := w.heap.size + 1 + 1 + 1) (n := fmul (fmul o o) a) hA4 (by omega)
      have hZ5 := st4_other (b := w.heap.size + 1 + 1 + 1) (n := fmul (fmul o o) a) hZ4 (by omega)
      have hO5 := st4_at (n := fmul (fmul o o) a) hO4
      have hB5 := st4_below (b := w.heap.size + 1 + 1 + 1) (n := fmul (fmul o o) a) hB4 (by omega)
      have hk5 : KeepsOthers X4 (st4 X4 (w.heap.size + 1 + 1 + 1) (fmul (fmul o o) a)) := st4_keeps _ _ _
      have hq5 := hq4.st4 (b := w.heap.size + 1 + 1 + 1) (n := fmul (fmul o o) a) (by omega)
      gi_wp2
      simp only [st4_eq]
      have := Hfold.out true
      rw [show sqm a o true = fmul (fmul o o) a from rfl] at this
      exact ⟨((hk2.trans hk3).trans hk4).trans hk5, hq5, ⟨hA5, hZ5, by rw [this]; exact hO5⟩, hB5⟩
  case done =>
    rintro D ys X hD rfl ⟨⟨_, hZ, hO⟩, hB⟩ hK
    rw [show (hiBits n 0).foldl (sqm a) 1 = powF a n from rfl] at hO
    have hcO := cell4 hO
    have cz0 := cell_of hZ 0
    have cz1 := cell_of hZ 1
    have cz2 := cell_of hZ 2
    have cz3 := cell_of hZ 3
    have czf := frozen_of hZ
    have hne : D ≠ w.heap.size + 1 + 1 := by omega
    have hK2 := st4_other (b := w.heap.size + 1 + 1) (n := powF a n) hK hne
    have hR : ((st4 X (w.heap.size + 1 + 1) (powF a n)).putObj D (.deferred none)).heap[w.heap.size + 1 + 1]? = some (.cells (cells4 (powF a n)) 26) :=
      (World.putObj_heap_other (Ne.symm hne)).trans (st4_at (n := powF a n) hZ)
    have hB2 := st4_below (b := w.heap.size + 1 + 1) (n := powF a n) hB (by omega)
    have hB3 := hB2.trans (belowK_b (w := w) (Nat.le_refl _) _ D _ (.deferred none) (by omega) hK2 rfl rfl)
    have hc := cell4 hR
    clear hne hD hs1
    gi_wp2
    simp only [st4_eq]
    refine ⟨by simp, .inl ⟨_, _, rfl, run_takeDeferred hK2, ?_⟩⟩
    exact ⟨num (powF a n), by simp [results, Try.results67, go_sem, hc], rfl, hB3⟩
  case stop =>
    rintro D c pre X _ _ h _
    exact h.elim
end Go.Proofs.Ytdhaedjmlddjcaa
