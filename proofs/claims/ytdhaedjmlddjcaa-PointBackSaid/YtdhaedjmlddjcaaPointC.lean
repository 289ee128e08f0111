/- point.falling, point.Mul: the bits of a number; a point so often. For numbers below the prime. No other conditions. -/
import Derived.Test.YtdhaedjmlddjcaaPointB
namespace Go.Proofs.Ytdhaedjmlddjcaa
open Go.RowKit Go.Mono Go.Num
attribute [local go_sem] Oper.semAt_some

set_option maxHeartbeats 1000000 in
theorem pointFalling_stops (F : Fence) (n : Nat) (hF : F.fn 53) (hro : F.round = none) (hn : 1 ≤ n) (nb N : Nat) (w : World) (hN : w.heap[nb]? = some (.cells (cells4 N) 26)) :
    SeqStopsK F n Try.prog 53 #[.pointer (some ⟨nb, 0, none⟩)] (fun b : Bool => #[Value.bool b]) (KeepB nb) (fun xs => xs = hiBits N 0) (fun pre => pre <+: hiBits N 0) 256 w := fun l J Jx W hW _ _ hY h0 => by
  have hN1 : W.heap[nb]? = some (.cells (cells4 N) 26) := keep hW hN
  clear hN
  refine callsIn_of_wp Try.func53 rfl hF ?_ hro
  simp only [Try.ntmps53, List.size_toArray, List.length_cons, List.length_nil, Nat.reduceAdd, Nat.reduceSub, Array.replicate_succ, Array.replicate_zero, List.push_toArray, List.append_toArray, List.nil_append, List.cons_append]
  gi_wp2
  gi_loopw [3] (fun s wr => ∃ m : Nat, m ≤ 256 ∧ s = .int .i64 ((m : Int) - 1) ∧ wr.heap[nb]? = some (.cells (cells4 N) 26) ∧ J (hiBits N m) wr) (fun s _ => (intOf s + 1).toNat)
  case atStart => exact ⟨256, by omega, rfl, hN1, h0⟩
  case round =>
    obtain ⟨m, hm, rfl, hN, hJs⟩ := hrel
    cases m with
    | zero =>
      gi_wp2
      go_end0
      exact ⟨⟨_, rfl⟩, .inl ⟨_, rfl, hJs⟩⟩
    | succ i =>
      rw [show ((i + 1 : Nat) : Int) - 1 = i by omega]
      have hc := cell4 hN (i / 64) (by omega)
      have hbit := bit_walk N i
      have hpre : hiBits N i <+: hiBits N 0 := by
        unfold hiBits
        refine List.IsPrefix.map _ ?_
        rw [show 256 - 0 = (256 - i) + i by omega, List.range_add]
        exact List.prefix_append _ _
      obtain ⟨fn, tmps, assign, body, hy, hR⟩ := hY (hiBits N (i + 1)) (N.testBit i) wr hJs (by rw [hiBits_length]; omega)
      rw [← hiBits_step N i (by omega)] at hR
      have Hpre := Lib.hid hpre
      clear hpre
      gi_wp2
      refine hR.mono ?_
      rintro e W3 (⟨rfl, hJ3, hk3⟩ | ⟨rfl, hJx3⟩)
      · have hN3 := hk3 _ hN
        gi_wp2
        go_roundw
        case rel => exact ⟨i, by omega, rfl, hN3, hJ3⟩
        case measure => simp [intOf]
      · gi_wp2
        refine bodyPost_ret (results_none rfl _ _ _) rfl ?_
        exact ⟨⟨_, rfl⟩, .inr ⟨_, Hpre.out, hJx3⟩⟩

set_option maxHeartbeats 400000 in
theorem pointFalling_any (n : Nat) (w : World) :
    Calls Try.prog 29 #[num n] w fun e w' => e = .returned (.func (.func 53) #[] #[.pointer (some ⟨w.heap.size, 0, none⟩)]) ∧ w' = w.alloc (.cells (cells4 n) 26) := by
  go_enter Try.func29, Try.ntmps29
  go_wp2
  go_ret
  exact ⟨rfl, rfl⟩

theorem num_zero : num 0 = .agg #[.int .u64 0, .int .u64 0, .int .u64 0, .int .u64 0] :=
  num_of (by decide +kernel) (by decide +kernel) (by decide +kernel) (by decide +kernel)

/-- What point.Mul computes. -/
def mulX (k x y : Nat) : Nat := ptX (mulF k (ofP x y))
def mulY (k x y : Nat) : Nat := ptY (mulF k (ofP x y))
theorem mulX_eq (k x y : Nat) : mulX k x y = ptX (mulF k (ofP x y)) := rfl
theorem mulY_eq (k x y : Nat) : mulY k x y = ptY (mulF k (ofP x y)) := rfl
theorem dbl_false (q o : F4) : dbl q o false = addP o o := rfl
theorem dbl_true (q o : F4) : dbl q o true = addP (addP o o) q := rfl
theorem pt_zero_one : pt 0 1 = .agg #[.int .u64 0, .int .u64 0, .int .u64 0, .int .u64 0, .int .u64 1, .int .u64 0, .int .u64 0, .int .u64 0] := by
  unfold pt
  rw [one_words.1, one_words.2.1, one_words.2.2.1, one_words.2.2.2, wd_zero, wd_zero, wd_zero, wd_zero]; rfl

set_option maxHeartbeats 1000000 in
theorem pmul_any (k x y : Nat) (w : World) (hx : x < p) (hy : y < p) :
    Calls Try.prog 10 #[num k, pt x y] w fun e w' => e = .returned (pt (mulX k x y) (mulY k x y)) ∧ Below w.heap.size w w' := by
  have Hx := Lib.hid hx
  have Hy := Lib.hid hy
  clear hx hy
  have ho := fun w => of_any 0 1 w (lt_W p_pos) (lt_W one_lt)
  rw [pt_zero_one] at ho
  have Ho := Lib.hid ho
  clear ho
  have Hq := Lib.hid (ofP_ok Hx.out Hy.out)
  refine (callsIn_wide (n := 3)).1 ?_
  refine callsIn_of_wp_marks Try.func10 rfl trivial ?_ rfl
  simp only [Try.ntmps10, List.size_toArray, List.length_cons, List.length_nil, Nat.reduceAdd, Nat.reduceSub, Array.replicate_succ, Array.replicate_zero, List.push_toArray, List.append_toArray, List.nil_append, List.cons_append]
  gi_wp2_with fail
  obtain ⟨w0, hq_w0⟩ : ∃ w0, (((w.alloc (.cells #[.int .u64 (wd k 0), .int .u64 (wd k 1), .int .u64 (wd k 2), .int .u64 (wd k 3)] 26)).alloc (.cells #[.int .u64 (wd x 0), .int .u64 (wd x 1), .int .u64 (wd x 2), .int .u64 (wd x 3), .int .u64 (wd y 0), .int .u64 (wd y 1), .int .u64 (wd y 2), .int .u64 (wd y 3)] 28)).alloc (.cells #[.int .u64 0, .int .u64 0, .int .u64 0, .int .u64 0, .int .u64 0, .int .u64 0, .int .u64 0, .int .u64 0] 28)) = w0 := ⟨_, rfl⟩
  have hk : w0.heap[w.heap.size]? = some (.cells #[.int .u64 (wd k 0), .int .u64 (wd k 1), .int .u64 (wd k 2), .int .u64 (wd k 3)] 26) := by rw [← hq_w0]; exact hp_old _ (hp_old _ (hp_new _ (by simp)))
  have hx : w0.heap[w.heap.size + 1]? = some (.cells #[.int .u64 (wd x 0), .int .u64 (wd x 1), .int .u64 (wd x 2), .int .u64 (wd x 3), .int .u64 (wd y 0), .int .u64 (wd y 1), .int .u64 (wd y 2), .int .u64 (wd y 3)] 28) := by rw [← hq_w0]; exact hp_old _ (hp_new _ (by simp))
  have hz : w0.heap[w.heap.size + 1 + 1]? = some (.cells #[.int .u64 0, .int .u64 0, .int .u64 0, .int .u64 0, .int .u64 0, .int .u64 0, .int .u64 0, .int .u64 0] 28) := by rw [← hq_w0]; exact hp_new _ (by simp)
  have hs_w0 : w0.heap.size = w.heap.size + 3 := by rw [← hq_w0]; simp
  have hw_w0 : Below w.heap.size w w0 := by rw [← hq_w0]; exact (((Below.refl w.heap.size w).alloc (Nat.le_refl _) _).alloc (by simp) _).alloc (by simp; omega) _
  rw [hq_w0]
  clear hq_w0
  refine ⟨trivial, ?_⟩
  refine (callsIn_wide.2 (of_any x y w0 (lt_W Hx.out) (lt_W Hy.out))).mono ?_
  rintro e w1 ⟨rfl, hb⟩
  replace hw_w0 := below_tr' hw_w0 hb
  replace hk := keep hb hk
  replace hx := keep hb hx
  replace hz := keep hb hz
  clear hb
  gi_wp2_with fail
  have lz := Go.Mono.lt_of_some hz
  obtain ⟨w2, hq_w2⟩ : ∃ w2, (w1.alloc (.cells #[.int .u64 (wd ((ofP x y).x) 0), .int .u64 (wd ((ofP x y).x) 1), .int .u64 (wd ((ofP x y).x) 2), .int .u64 (wd ((ofP x y).x) 3), .int .u64 (wd ((ofP x y).y) 0), .int .u64 (wd ((ofP x y).y) 1), .int .u64 (wd ((ofP x y).y) 2), .int .u64 (wd ((ofP x y).y) 3), .int .u64 (wd ((ofP x y).z) 0), .int .u64 (wd ((ofP x y).z) 1), .int .u64 (wd ((ofP x y).z) 2), .int .u64 (wd ((ofP x y).z) 3), .int .u64 (wd ((ofP x y).t) 0), .int .u64 (wd ((ofP x y).t) 1), .int .u64 (wd ((ofP x y).t) 2), .int .u64 (wd ((ofP x y).t) 3)] 54)) = w2 := ⟨_, rfl⟩
  have hq : w2.heap[w1.heap.size]? = some (.cells #[.int .u64 (wd ((ofP x y).x) 0), .int .u64 (wd ((ofP x y).x) 1), .int .u64 (wd ((ofP x y).x) 2), .int .u64 (wd ((ofP x y).x) 3), .int .u64 (wd ((ofP x y).y) 0), .int .u64 (wd ((ofP x y).y) 1), .int .u64 (wd ((ofP x y).y) 2), .int .u64 (wd ((ofP x y).y) 3), .int .u64 (wd ((ofP x y).z) 0), .int .u64 (wd ((ofP x y).z) 1), .int .u64 (wd ((ofP x y).z) 2), .int .u64 (wd ((ofP x y).z) 3), .int .u64 (wd ((ofP x y).t) 0), .int .u64 (wd ((ofP x y).t) 1), .int .u64 (wd ((ofP x y).t) 2), .int .u64 (wd ((ofP x y).t) 3)] 54) := by rw [← hq_w2]; exact hp_new _ (by simp)
  have hs_w2 : w2.heap.size = w1.heap.size + 1 := by rw [← hq_w2]; simp
  have hw_w2 : Below w1.heap.size w1 w2 := by rw [← hq_w2]; exact (Below.refl w1.heap.size w1).alloc (Nat.le_refl _) _
  rw [hq_w2]
  clear hq_w2
  clear hs_w2
  replace hw_w0 := below_tr' hw_w0 hw_w2
  replace hk := keep hw_w2 hk
  replace hx := keep hw_w2 hx
  replace hz := keep hw_w2 hz
  clear hw_w2
  generalize w1.heap.size = bQ at *
  refine ⟨trivial, ?_⟩
  refine (callsIn_wide.2 (Ho.out w2)).mono ?_
  rintro e w3 ⟨rfl, hb⟩
  replace hw_w0 := below_tr' hw_w0 hb
  replace hk := keep hb hk
  replace hx := keep hb hx
  replace hz := keep hb hz
  replace hq := keep hb hq
  clear hb
  have ck := cell_of hk
  have lk := Go.Mono.lt_of_some hk
  gi_wp2_with fail
  clear ck lk
  have lq := Go.Mono.lt_of_some hq
  obtain ⟨w4, hq_w4⟩ : ∃ w4, (w3.alloc (.cells #[.int .u64 (wd ((ofP 0 1).x) 0), .int .u64 (wd ((ofP 0 1).x) 1), .int .u64 (wd ((ofP 0 1).x) 2), .int .u64 (wd ((ofP 0 1).x) 3), .int .u64 (wd ((ofP 0 1).y) 0), .int .u64 (wd ((ofP 0 1).y) 1), .int .u64 (wd ((ofP 0 1).y) 2), .int .u64 (wd ((ofP 0 1).y) 3), .int .u64 (wd ((ofP 0 1).z) 0), .int .u64 (wd ((ofP 0 1).z) 1), .int .u64 (wd ((ofP 0 1).z) 2), .int .u64 (wd ((ofP 0 1).z) 3), .int .u64 (wd ((ofP 0 1).t) 0), .int .u64 (wd ((ofP 0 1).t) 1), .int .u64 (wd ((ofP 0 1).t) 2), .int .u64 (wd ((ofP 0 1).t) 3)] 54)) = w4 := ⟨_, rfl⟩
  have ho : w4.heap[w3.heap.size]? = some (.cells #[.int .u64 (wd ((ofP 0 1).x) 0), .int .u64 (wd ((ofP 0 1).x) 1), .int .u64 (wd ((ofP 0 1).x) 2), .int .u64 (wd ((ofP 0 1).x) 3), .int .u64 (wd ((ofP 0 1).y) 0), .int .u64 (wd ((ofP 0 1).y) 1), .int .u64 (wd ((ofP 0 1).y) 2), .int .u64 (wd ((ofP 0 1).y) 3), .int .u64 (wd ((ofP 0 1).z) 0), .int .u64 (wd ((ofP 0 1).z) 1), .int .u64 (wd ((ofP 0 1).z) 2), .int .u64 (wd ((ofP 0 1).z) 3), .int .u64 (wd ((ofP 0 1).t) 0), .int .u64 (wd ((ofP 0 1).t) 1), .int .u64 (wd ((ofP 0 1).t) 2), .int .u64 (wd ((ofP 0 1).t) 3)] 54) := by rw [← hq_w4]; exact hp_new _ (by simp)
  have hs_w4 : w4.heap.size = w3.heap.size + 1 := by rw [← hq_w4]; simp
  have hw_w4 : Below w3.heap.size w3 w4 := by rw [← hq_w4]; exact (Below.refl w3.heap.size w3).alloc (Nat.le_refl _) _
  rw [hq_w4]
  clear hq_w4
  clear hs_w4
  replace hw_w0 := below_tr' hw_w0 hw_w4
  replace hx := keep hw_w4 hx
  replace hz := keep hw_w4 hz
  replace hq := keep hw_w4 hq
  clear hw_w4
  generalize w3.heap.size = bO at *
  refine ⟨trivial, ?_⟩
  refine (callsIn_wide.2 (pointFalling_any k w4)).mono ?_
  rintro e w5 ⟨rfl, rfl⟩
  gi_wp2
  have ln := Go.Mono.lt_of_some ho
  obtain ⟨w5, hq_w5⟩ : ∃ w5, (w4.alloc (.cells (cells4 k) 26)) = w5 := ⟨_, rfl⟩
  have hn : w5.heap[w4.heap.size]? = some (.cells (cells4 k) 26) := by rw [← hq_w5]; exact hp_new _ (by simp)
  have hs_w5 : w5.heap.size = w4.heap.size + 1 := by rw [← hq_w5]; simp
  have hw_w5 : Below w4.heap.size w4 w5 := by rw [← hq_w5]; exact (Below.refl w4.heap.size w4).alloc (Nat.le_refl _) _
  rw [hq_w5]
  clear hq_w5
  replace hw_w0 := below_tr' hw_w0 hw_w5
  replace hz := keep hw_w5 hz
  replace hq := keep hw_w5 hq
  replace ho := keep hw_w5 ho
  clear hw_w5
  generalize w4.heap.size = bN at *
  clear hk hx
  generalize hqq : ofP x y = q at *
  have Hqq := Lib.hid hqq
  clear hqq
  refine wpIn_rangeFunc_ownF rfl (by omega) (gf := 53) (lb := #[.pointer (some ⟨bN, 0, none⟩)]) rfl trivial (enters_of Try.func53 (by kernel_rfl) rfl)
    (pointFalling_stops Fence.wide _ trivial rfl (by omega) bN k w5 hn) keepB_t (keepB_b (by omega)) (Below.refl _ _) (fun _ => rfl)
    (fun pre X => (X.heap[w.heap.size + 1 + 1]? = some (.cells #[.int .u64 0, .int .u64 0, .int .u64 0, .int .u64 0, .int .u64 0, .int .u64 0, .int .u64 0, .int .u64 0] 28) ∧ X.heap[bQ]? = some (.cells #[.int .u64 (wd (q.x) 0), .int .u64 (wd (q.x) 1), .int .u64 (wd (q.x) 2), .int .u64 (wd (q.x) 3), .int .u64 (wd (q.y) 0), .int .u64 (wd (q.y) 1), .int .u64 (wd (q.y) 2), .int .u64 (wd (q.y) 3), .int .u64 (wd (q.z) 0), .int .u64 (wd (q.z) 1), .int .u64 (wd (q.z) 2), .int .u64 (wd (q.z) 3), .int .u64 (wd (q.t) 0), .int .u64 (wd (q.t) 1), .int .u64 (wd (q.t) 2), .int .u64 (wd (q.t) 3)] 54) ∧ X.heap[bO]? = some (.cells (pre.foldl (dbl q) (ofP 0 1)).cells 54)) ∧ Below w.heap.size w X)
    (fun _ _ _ => False)
    (OwnFrom.and (Own.from (fun s A B row hs hg hr => ⟨hp_kept hs.1 hg hr, hp_kept hs.2.1 hg hr, hp_kept hs.2.2 hg hr⟩) _) (ownFrom_below (Nat.le_refl _) (by have := hw_w0.size; omega)))
    (fun _ _ _ _ _ hs _ _ => hs)
    ⟨⟨hz, hq, ho⟩, hw_w0⟩
    (fun b => { tmps := #[num k, pt x y, .pointer (some ⟨w.heap.size, 0, none⟩), .pointer (some ⟨w.heap.size + 1, 0, none⟩), .pointer (some ⟨w.heap.size + 1 + 1, 0, none⟩), .pointer (some ⟨bQ, 0, none⟩), .pointer (some ⟨bO, 0, none⟩), .bool b,
      pt x y, q.v, .agg #[.int .u64 1, .int .u64 0, .int .u64 0, .int .u64 0], .agg #[.int .u64 0, .int .u64 0, .int .u64 0, .int .u64 0, .int .u64 1, .int .u64 0, .int .u64 0, .int .u64 0], (ofP 0 1).v, num k,
      .func (.func 53) #[] #[.pointer (some ⟨bN, 0, none⟩)], .bool b, undef, undef, undef, undef, undef, undef, undef, undef, undef], defers := [] }) ?assign ?body ?done ?stop
  case assign =>
    intro l b X K hK
    gi_wp2
    exact hK
  case body =>
    rintro l pre b X ⟨⟨hZ, hQ, hO⟩, hB⟩ _
    have Hfold := Lib.hid (show ∀ b : Bool, (pre ++ [b]).foldl (dbl q) (ofP 0 1) = dbl q (pre.foldl (dbl q) (ofP 0 1)) b from fun b => by rw [List.foldl_append]; rfl)
    have Hok := Lib.hid (foldl_ok q pre)
    generalize pre.foldl (dbl q) (ofP 0 1) = o at *
    have cO := cell_of hO
    gi_wp2_with fail
    refine ⟨trivial, ?_⟩
    have hc1 := add_p o o X Hok.out Hok.out
    have hok1 := addP_ok o o
    have hf0 := Hfold.out false
    have hf1 := Hfold.out true
    rw [dbl_false] at hf0
    rw [dbl_true] at hf1
    generalize addP o o = r at *
    have Hok1 := Lib.hid hok1
    have Hf0 := Lib.hid hf0
    clear hok1 hf0 Hfold
    refine (CallsIn.inRound l (callsIn_wide.2 hc1)).mono ?_
    clear hc1
    rintro e X2 ⟨rfl, hb2⟩
    have hk2 : KeepsOthers X X2 := keepsOthers_of_below hb2
    have hq2 : KeepB bN X X2 := keepB_of_below hb2
    clear cO
    replace hB := below_tr' hB hb2
    replace hZ := keep hb2 hZ
    replace hQ := keep hb2 hQ
    replace hO := keep hb2 hO
    clear hb2
    rename_i hK_; refine hK_ _ _ ?_; clear hK_
    refine wpListIn_storeBlk 16 rfl rfl rfl rfl hO rfl rfl (by kernel_rfl) (by kernel_rfl) ?_
    intro X3 s3
    simp only [Act.put]
    have hk3 := hk2.trans s3.keeps
    have hq3 := keepB_t hq2 (fun _ hx => s3.other hx (by omega))
    clear hk2 hq2
    replace hB := s3.below hB (by omega)
    replace hZ := s3.other hZ (by omega)
    replace hQ := s3.other hQ (by omega)
    replace hO := s3.at_
    clear s3
    cases b with
    | false =>
      clear hf1
      gi_wp2
      exact ⟨hk3, hq3, ⟨hZ, hQ, by rw [Hf0.out]; exact hO⟩, hB⟩
    | true =>
      as_aux_lemma =>
      have Hf1' := Lib.hid hf1
      clear hf1
      have cO := cell_of hO
      have cQ := cell_of hQ
      gi_wp2_with fail
      have hf1 := Hf1'.out
      clear Hf1'
      refine ⟨trivial, ?_⟩
      have hc2 := add_p r q X3 Hok1.out Hq.out
      generalize addP r q = r2 at *
      have Hf1 := Lib.hid hf1
      clear hf1
      refine (CallsIn.inRound l (callsIn_wide.2 hc2)).mono ?_
      clear hc2
      rintro e X4 ⟨rfl, hb4⟩
      have hk4 := hk3.trans (keepsOthers_of_below hb4)
      have hq4 := keepB_t hq3 (keepB_of_below hb4)
      clear cO cQ hk3 hq3
      replace hB := below_tr' hB hb4
      replace hZ := keep hb4 hZ
      replace hQ := keep hb4 hQ
      replace hO := keep hb4 hO
      clear hb4
      rename_i hK_; refine hK_ _ _ ?_; clear hK_
      refine wpListIn_storeBlk 16 rfl rfl rfl rfl hO rfl rfl (by kernel_rfl) (by kernel_rfl) ?_
      intro X5 s5
      simp only [Act.put]
      have hk5 := hk4.trans s5.keeps
      have hq5 := keepB_t hq4 (fun _ hx => s5.other hx (by omega))
      clear hk4 hq4
      replace hB := s5.below hB (by omega)
      replace hZ := s5.other hZ (by omega)
      replace hQ := s5.other hQ (by omega)
      replace hO := s5.at_
      clear s5
      gi_wp2
      exact ⟨hk5, hq5, ⟨hZ, hQ, by rw [Hf1.out]; exact hO⟩, hB⟩
  case done =>
    rintro D ys X hD rfl ⟨⟨hZ, _, hO⟩, hB⟩ hK
    rw [show (hiBits k 0).foldl (dbl q) (ofP 0 1) = mulF k q from rfl] at hO
    have Hok := Lib.hid (show (mulF k q).ok from foldl_ok q _)
    have hXs : X.heap.size ≤ X.heap.size := Nat.le_refl _
    have cO := cell_of hO
    gi_wp2_with fail
    refine ⟨trivial, ?_⟩
    refine (callsIn_wide.2 (point_p (mulF k q) X Hok.out)).mono ?_
    rintro e X2 ⟨rfl, hb2⟩
    clear cO
    replace hB := below_tr' hB hb2
    replace hZ := keep hb2 hZ
    replace hK := keep hb2 hK
    clear hb2
    rename_i hK_; refine hK_ _ _ ?_; clear hK_
    refine wpListIn_storeBlk 8 rfl rfl rfl rfl hZ rfl rfl (by kernel_rfl) (by kernel_rfl) ?_
    intro X3 s3
    simp only [Act.put]
    replace hB := s3.below hB (by omega)
    replace hK := s3.other hK (by omega)
    replace hZ := s3.at_
    clear s3
    have hne : w.heap.size + 1 + 1 ≠ D := by omega
    have hR : (X3.putObj D (.deferred none)).heap[w.heap.size + 1 + 1]? = some (.cells #[.int .u64 (wd (ptX (mulF k q)) 0), .int .u64 (wd (ptX (mulF k q)) 1), .int .u64 (wd (ptX (mulF k q)) 2), .int .u64 (wd (ptX (mulF k q)) 3), .int .u64 (wd (ptY (mulF k q)) 0), .int .u64 (wd (ptY (mulF k q)) 1), .int .u64 (wd (ptY (mulF k q)) 2), .int .u64 (wd (ptY (mulF k q)) 3)] 28) := (World.putObj_heap_other hne).trans hZ
    have hB3 := hB.trans (belowK_b (w := w) (Nat.le_refl _) _ D _ (.deferred none) (by omega) hK rfl rfl)
    clear hne hD
    gi_wp2
    refine ⟨by simp, .inl ⟨_, _, rfl, run_takeDeferred hK, ?_⟩⟩
    refine ⟨pt (ptX (mulF k q)) (ptY (mulF k q)), results_blk Try.results10 rfl hR Try.underlying28 rfl (by kernel_rfl), ?_, hB3⟩
    rw [← Hqq.out, ← mulX_eq, ← mulY_eq]
  case stop =>
    rintro D c pre X _ _ h _
    exact h.elim
end Go.Proofs.Ytdhaedjmlddjcaa
