/- sha.State.blocks' function: for every loop body that turns the state alone. No conditions beyond the sizes. -/
import Derived.Test.YtggbjpebdmlahaaHashA
import Derived.Test.YtggbjpebdmlahaaRange
import Derived.Test.YtggbjpebdmlahaaSeqB
import Derived.TacticsInMore
import Derived.LoopNIn
import Derived.LoopIn
import Derived.OwnWalkIn
import Derived.Lib.Builder
import Derived.Lib.Strings
namespace Go.Num
open Go Go.RowKit
/-- How long the text in a variable is. -/
def strLen (w : World) (b : Nat) : Nat := match w.cell? ⟨b, 0, none⟩ with | some (.string s) => s.size | _ => 0
theorem strLen_at {w : World} {b T : Nat} {s : ByteArray} (h : w.heap[b]? = some (.cells #[.string s] T)) : strLen w b = s.size := by
  unfold strLen
  rw [cell_of h]
  rfl
theorem bstr_from (f : Nat → Nat) (m k : Nat) (h : k ≤ m) : (bstr f m).extract k (bstr f m).size = bstr (fun j => f (k + j)) (m - k) := by
  rw [bstr_size]
  apply ByteArray.ext
  rw [ByteArray.data_extract]
  apply Array.ext_getElem?
  intro j
  show ((btext f m).toArray.extract k m)[j]? = ((btext (fun j => f (k + j)) (m - k)).toArray)[j]?
  unfold btext
  by_cases hj : j < m - k
  · simp [hj]
  · rw [Array.getElem?_eq_none (by simp; omega), Array.getElem?_eq_none (by simp; omega)]
theorem bstr_upto (f : Nat → Nat) (m k : Nat) (h : k ≤ m) : (bstr f m).extract 0 k = bstr f k := by
  apply ByteArray.ext
  rw [ByteArray.data_extract]
  apply Array.ext_getElem?
  intro j
  show ((btext f m).toArray.extract 0 k)[j]? = ((btext f k).toArray)[j]?
  unfold btext
  by_cases hj : j < k
  · simp [hj]
    exact ⟨j, List.getElem?_range (by omega), rfl⟩
  · rw [Array.getElem?_eq_none (by simp; omega), Array.getElem?_eq_none (by simp; omega)]
end Go.Num
namespace Go.Num
open Go Go.RowKit
theorem own_X {X : Nat → Prop} {W w : World} {B e n : Nat} {v : Value} {xs : List Value} (hrow : w.ownsRow B e 1 v n xs) (hfr : Fr X W w) (hX : ∀ k c z, B ≤ k → W.heap[k]? = some (.cells c e z) → X k) :
    ∀ k, v.ownBlock = some k → k < W.heap.size → X k := fun k hk hlt => by
  rcases hrow.2 with ⟨rfl, _⟩ | ⟨g, cap, cur, rfl, hbg, hg, _⟩
  · simp [Value.ownBlock] at hk
  · simp [Value.ownBlock] at hk
    subst hk
    by_cases hx : X g
    · exact hx
    · exact hX g _ _ hbg ((hfr.block g hlt hx).symm.trans hg)
theorem stAt_end {w : World} {T e p B c r k m N n : Nat} {f : Nat → Nat} {v : Value} (hcl : w.heap[p]? = some (.cells (stCells (hashN f c) v n) T)) (hrow : w.ownsRow B e 1 v r (bl (fun j => f (64 * c + j)) r)) (hk : k = m) (hc : (N + k) / 64 = c) (hr : (N + k) % 64 = r) : StAt w T e p B f (N + m) n v := by
  subst hk
  refine ⟨?_, ?_⟩
  · rw [hc]; exact hcl
  · rw [hc, hr]; exact hrow
end Go.Num
namespace Go.Proofs.Ytggbjpebdmlahaa
open Go.RowKit Go.Mono Go.Num Go.Shelf
attribute [local go_sem] Oper.semAt_some
set_option maxRecDepth 100000 in
set_option maxHeartbeats 2000000 in
theorem blocks1_any (p B bs bt l d m N n : Nat) (f : Nat → Nat) (v0 : Value) (W1 : World) (X : Nat → Prop) (hf : ∀ j, f j < 256) (hsz : N + m < 1000000000000)
    (hXp : X p) (hXs : X bs) (hX8 : ∀ k c z, B ≤ k → W1.heap[k]? = some (.cells c 5 z) → X k) (hXt : ¬ X bt) (hps : bs ≠ p) (hBW : B ≤ W1.heap.size)
    (hst : StAt W1 92 5 p B f N n v0) (hbs : W1.heap[bs]? = some (.cells #[.string (bstr (fun j => f (N + j)) m)] 9)) (hbt : W1.heap[bt]? = some (.cells #[.pointer (some ⟨p, 0, none⟩)] 58))
    (hY : ∀ c W v', 64 * (c + 1) ≤ N + m → W.heap[p]? = some (.cells (stCells (hashN f c) v' n) 92) → Fr X W1 W →
      YieldAt Fence.wide d Try.prog l #[.string (bstr (fun j => f (64 * c + j)) 64)] W (fun e W' => e = .returned (.bool true) ∧ W'.heap[p]? = some (.cells (stCells (hashN f (c + 1)) v' n) 92) ∧ Fr (fun k => k = p) W W')) :
    CallsIn Fence.wide (d + 1) Try.prog 77 #[.func (.yield l) #[] #[], .pointer (some ⟨bs, 0, none⟩), .pointer (some ⟨bt, 0, none⟩)] W1 (fun e W2 => (∃ u, e = .returned u) ∧
      ∃ v2, StAt W2 92 5 p B f (N + m) n v2 ∧ Fr X W1 W2) := by
  obtain ⟨i0, hi0, hz0, hz1, hz2⟩ := info_parts info_byte
  refine callsIn_of_wp Try.func77 rfl trivial ?_ rfl
  simp only [Try.ntmps77, List.size_toArray, List.length_cons, List.length_nil, Nat.reduceAdd, Nat.reduceSub, Array.replicate_succ, Array.replicate_zero, List.push_toArray, List.append_toArray, List.nil_append, List.cons_append]
  gi_wp2
  gi_loopw [4] (fun _ wr => ∃ (k : Nat) (v : Value), k ≤ m ∧ (k = 0 ∨ (N + k) % 64 = 0) ∧ StAt wr 92 5 p B f (N + k) n v ∧ wr.heap[bs]? = some (.cells #[.string (bstr (fun j => f (N + k + j)) (m - k))] 9) ∧ Fr X W1 wr) (fun _ wr => strLen wr bs)
  case atStart => exact ⟨0, v0, by omega, .inl rfl, hst, hbs, Fr.refl _ _⟩
  case round =>
    clear hst hbs
    obtain ⟨k, v, hk, hk0, hst, hbs, hfr⟩ := hrel
    have cs := cell_of hbs 0
    have hszb := bstr_size (fun j => f (N + k + j)) (m - k)
    by_cases hz : m - k = 0
    · obtain rfl : k = m := by omega
      have he : bstr (fun j => f (N + k + j)) (k - k) = ⟨#[]⟩ := by rw [Nat.sub_self]; rfl
      rw [he] at cs
      gi_wp2
      go_end0
      exact ⟨⟨_, rfl⟩, v, hst, hfr⟩
    · have hne : ¬ (bstr (fun j => f (N + k + j)) (m - k)).toList = [] := by
        intro h
        rw [Lib.toList_data] at h
        have h2 : (bstr (fun j => f (N + k + j)) (m - k)).data.toList.length = m - k := hszb
        rw [h] at h2
        exact hz h2.symm
      have hem : (bstr (fun j => f (N + k + j)) (m - k)).toList.isEmpty = false := by
        rw [Bool.eq_false_iff]
        intro h
        exact hne (List.isEmpty_iff.1 h)
      obtain ⟨r, hr⟩ : ∃ r, (N + k) % 64 = r := ⟨_, rfl⟩
      obtain ⟨M, hM⟩ : ∃ M, m - k = M := ⟨_, rfl⟩
      obtain ⟨q, hq⟩ : ∃ q, 64 - r = q := ⟨_, rfl⟩
      obtain ⟨u, hu⟩ : ∃ u, min M q = u := ⟨_, rfl⟩
      obtain ⟨c, hc⟩ : ∃ c, (N + k) / 64 = c := ⟨_, rfl⟩
      have hrow := hst.row
      have hcl := hst.cells
      have hpg := hst.ne (by decide)
      rw [hc] at hcl
      rw [hr, hc] at hrow
      clear hst
      rw [hM] at cs hbs hszb hne hem hz
      have hms : Hid (strLen wr bs = M) := (strLen_at hbs).trans hszb
      have e1 : IntKind.i64.wrap (64 - (r : Int)) = (q : Int) := by rw [wrap_i64]; omega
      have e2 : (if q < M then (q : Int) else (M : Int)) = (u : Int) := by split <;> omega
      have e3 : (Value.int .i64 (if q < M then (q : Int) else (M : Int))) = .int .i64 u := by rw [e2]
      gi_wp2
      refine wpIn_wide.2 ?_
      refine wp_region_calm (by kernel_rfl) (by kernel_rfl) ?_
      repeat (first
        | (refine calm_not rfl ?_
           simp only [Act.put, List.setIfInBounds_toArray, List.set_cons_zero, List.set_cons_succ])
        | (apply calm_pure rfl
           case h => (intro w1; go_simp; rfl)
           simp only [Act.put, List.setIfInBounds_toArray, List.set_cons_zero, List.set_cons_succ])
        | (apply calm_val rfl
           case h => (intro w1 hC; have c1 := cell_of (keep hC (hp_drew hbs)) 0; have ct := cell_of (keep hC (hp_drew (hfr.at_ hbt hXt))) 0; have cp := st_v (keep hC (hp_drew hcl)); clear hC; go_simp; rfl)
           simp only [Act.put, List.setIfInBounds_toArray, List.set_cons_zero, List.set_cons_succ]))
      refine calm_val (v := .int .i64 r) rfl (fun w1 hC => exec_len rfl Try.underlying22 rfl hrow w1) ?_
      simp only [Act.put, List.setIfInBounds_toArray, List.set_cons_zero, List.set_cons_succ]
      repeat (first
        | (refine calm_not rfl ?_
           simp only [Act.put, List.setIfInBounds_toArray, List.set_cons_zero, List.set_cons_succ])
        | (apply calm_pure rfl
           case h => (intro w1; go_simp; rfl)
           simp only [Act.put, List.setIfInBounds_toArray, List.set_cons_zero, List.set_cons_succ]))
      refine wpQuiet_nil ?_
      intro w4 hC
      replace hbs := keep hC (hp_drew hbs)
      replace hcl := keep hC (hp_drew hcl)
      replace hrow := ownsRow_below (w := wr.drew) hrow hC
      replace hfr : Fr X W1 w4 := (hfr.drew).trans (Fr.of_below hC)
      clear hC
      gi_wp2
      have hbt4 := hfr.at_ hbt hXt
      have hup := bstr_upto (fun j => f (N + k + j)) M u (by omega)
      have hsu := bstr_size (fun j => f (N + k + j)) u
      have huM : (u : Int) ≤ (M : Int) := by omega
      have lp := Go.Mono.lt_of_some hcl
      have lbs := Go.Mono.lt_of_some hbs
      have lbt := Go.Mono.lt_of_some hbt4
      obtain ⟨v', w5, hr5, hown5, hgr5, hnil5⟩ := Lib.run_append_own_string (P := Try.prog) (w := w4.drew) B 22 9 22 5 i0 Try.underlying22 Try.underlying9 hi0 hz0 hz1 hz2 v r (bl (fun j => f (64 * c + j)) r) hrow (bstr (fun j => f (N + k + j)) u) (by rw [hsu]; unfold maxLen; omega) (by rw [hsu]; omega) (Nat.le_trans hBW hfr.size)
      rw [hsu, strCells_bstr _ _ (fun j _ => hf _)] at hown5
      have hkb : ∀ (b : Nat) (o : Obj), w4.heap[b]? = some o → v.ownBlock ≠ some b → w5.heap[b]? = some o := fun b o hb hne => by
        rw [hgr5.block b (Go.Mono.lt_of_some hb) (fun e => hne e.symm)]; exact hb
      have hnp : v.ownBlock ≠ some p := fun e => hpg p e rfl
      have hns : v.ownBlock ≠ some bs := own_ne hrow hbs (by decide)
      have hnt : v.ownBlock ≠ some bt := own_ne hrow hbt4 (by decide)
      have hfr5 : Fr X W1 w5 := hfr.drew.grown hgr5 (own_X hrow hfr hX8)
      refine wpIn_wide.2 ?_
      refine wp_region_txt [8] 9 (fun W => W.heap[bs]? = some (.cells #[.string (bstr (fun j => f (N + k + j)) M)] 9) ∧ W.heap[bt]? = some (.cells #[.pointer (some ⟨p, 0, none⟩)] 58) ∧ W.heap[p]? = some (.cells (stCells (hashN f c) v n) 92)) (by kernel_rfl) (by kernel_rfl) (fun _ _ _ _ _ h => h) ?_ ?_
      · exact ⟨hp_drew hbs, hp_drew hbt4, hp_drew hcl⟩
      simp only [List.take_succ_cons, List.take_zero, List.drop_succ_cons, List.drop_zero]
      repeat (first
        | (refine txt_not rfl rfl rfl ?_
           simp only [Act.put, List.setIfInBounds_toArray, List.set_cons_zero, List.set_cons_succ])
        | (apply txt_val rfl rfl rfl
           case h => (intro w1 hC; have c1 := cell_of hC.1 0; have ct := cell_of hC.2.1 0; have cp := st_v hC.2.2; clear hC; go_simp; rfl)
           simp only [Act.put, List.setIfInBounds_toArray, List.set_cons_zero, List.set_cons_succ]))
      refine txt_run rfl rfl rfl (exec_append rfl rfl rfl hr5) ⟨hkb _ _ hbs hns, hkb _ _ hbt4 hnt, hkb _ _ hcl hnp⟩ ?_
      simp only [Act.put, List.setIfInBounds_toArray, List.set_cons_zero, List.set_cons_succ]
      refine txt_nil ?_
      repeat (first
        | (refine seq_not rfl ?_
           simp only [Act.put, List.setIfInBounds_toArray, List.set_cons_zero, List.set_cons_succ])
        | (apply seq_val rfl
           case h => (go_simp; first | (simp only [bv_wrap, bv_xor, bv_and, bv_or, bv_add, bw_add, bv_not, bv_sgn, bv_nots, bv_shl24, bv_shl16, bv_shl8, bw_shl24, bw_shl16, bw_shl8, bv_shr3, bv_shr10]; rfl) | simp only [bv_wrap, bv_xor, bv_and, bv_or, bv_add, bw_add, bv_not, bv_sgn, bv_nots, bv_shl24, bv_shl16, bv_shl8, bw_shl24, bw_shl16, bw_shl8, bv_shr3, bv_shr10] | rfl)
           simp only [Act.put, List.setIfInBounds_toArray, List.set_cons_zero, List.set_cons_succ]))
      have hbs5 := hkb _ _ hbs hns
      have hcl5 := hkb _ _ hcl hnp
      have hbt5 := hkb _ _ hbt4 hnt
      have hNk : N + k = 64 * c + r := by omega
      have ebl : bl (fun j => f (N + k + j)) u = bl (fun j => (fun i => f (64 * c + i)) (r + j)) u := bl_congr (fun j hj => by show f _ = f _; congr 1; omega)
      rw [ebl, bl_add] at hown5
      obtain ⟨g, cap, cur, rfl, hbg, hgg, hown6⟩ : ∃ g cap cur, v' = .slice (some ⟨g, 0, none⟩) (r + u) cap ∧ B ≤ g ∧ w5.heap[g]? = some (.cells cur 5 (0, 0)) ∧ w5.ownsRow B 5 1 (.slice (some ⟨g, 0, none⟩) (r + u) cap) (r + u) (bl (fun i => f (64 * c + i)) (r + u)) := by
        rcases hown5.2 with ⟨_, h0⟩ | ⟨g, cap, cur, h1, h2, h3, h4⟩
        · omega
        · exact ⟨g, cap, cur, h1, h2, h3, h1 ▸ hown5⟩
      clear hown5 hnil5 hr5 hgr5 hkb
      obtain ⟨w6, hw6⟩ : ∃ w6, w5.setCell ⟨p, 8, none⟩ (.slice (some ⟨g, 0, none⟩) (r + u) cap) = w6 := ⟨_, rfl⟩
      have hgp : g ≠ p := fun e => by
        subst e
        rw [hgg] at hcl5
        simp at hcl5
      have hcl6 := st_set_v hcl5 (.slice (some ⟨g, 0, none⟩) (r + u) cap)
      have hbs6 := hp_set_ne (b' := p) (o := 8) (v := .slice (some ⟨g, 0, none⟩) (r + u) cap) hbs5 hps
      have hbt6 := hp_set_ne (b' := p) (o := 8) (v := .slice (some ⟨g, 0, none⟩) (r + u) cap) hbt5 (fun e => hXt (e ▸ hXp))
      have hgg6 := hp_set_ne (b' := p) (o := 8) (v := .slice (some ⟨g, 0, none⟩) (r + u) cap) hgg hgp
      have hfr6 := hfr5.setCell (p := ⟨p, 8, none⟩) hXp (.slice (some ⟨g, 0, none⟩) (r + u) cap)
      replace hown6 := owns_same (w' := w5.setCell ⟨p, 8, none⟩ (.slice (some ⟨g, 0, none⟩) (r + u) cap)) hown6 (fun g' hg' => by
        simp only [Value.ownBlock, Option.some.injEq] at hg'
        subst hg'
        exact Below.heap_setCell _ _ _ _ hgp)
      have c5 := st_v hcl5
      have f5 := frozen_of hcl5 8
      rw [hw6] at hcl6 hbs6 hbt6 hgg6 hfr6 hown6
      refine seq_skip (w' := w6) rfl (by rw [← hw6]; go_simp) ?_
      simp only [Act.put]
      refine wpList_nil ?_
      clear hcl5 hbs5 hbt5 hfr5 hgg c5 f5 hw6 hrow hcl hbs hfr hbt4 hnp hns hnt cs hNk ebl
      have hfrom := bstr_from (fun j => f (N + k + j)) M u (by omega)
      have c6 := cell_of hbs6 0
      have f6 := frozen_of hbs6 0
      have hszb : (bstr (fun j => f (N + k + j)) M).size = M := bstr_size _ _
      rw [hszb] at hfrom
      have hbs7 := hp_set (o := 0) (v := .string (bstr (fun j => f (N + k + (u + j))) (M - u))) hbs6
      have hcl7 := hp_set_ne (b' := bs) (o := 0) (v := .string (bstr (fun j => f (N + k + (u + j))) (M - u))) hcl6 (Ne.symm hps)
      have hbt7 := hp_set_ne (b' := bs) (o := 0) (v := .string (bstr (fun j => f (N + k + (u + j))) (M - u))) hbt6 (fun e => hXt (e ▸ hXs))
      have hgs : g ≠ bs := fun e => by
        subst e
        rw [hgg6] at hbs6
        simp at hbs6
      have hfr7 := hfr6.setCell (p := ⟨bs, 0, none⟩) hXs (.string (bstr (fun j => f (N + k + (u + j))) (M - u)))
      have hown7 := owns_same (w' := w6.setCell ⟨bs, 0, none⟩ (.string (bstr (fun j => f (N + k + (u + j))) (M - u)))) hown6 (fun g' hg' => by
        simp only [Value.ownBlock, Option.some.injEq] at hg'
        subst hg'
        exact Below.heap_setCell _ _ _ _ hgs)
      have ct7 := cell_of hbt7 0
      have cp7 := st_v hcl7
      clear hgg6
      by_cases hfull : r + u < 64
      · have hf1 : ((r + u : Nat) : Int) < 64 := by omega
        have hf2 : (r : Int) + (u : Int) < 64 := by omega
        gi_wp2
        refine bodyPost_ret (results_none rfl _ _ _) rfl ?_
        exact ⟨⟨_, rfl⟩, _, stAt_end (k := k + u) hcl7 hown7 (by omega) (by omega) (by omega), hfr7⟩
      · have h64 : r + u = 64 := by omega
        rw [h64] at hcl7 hown7 cp7 ⊢
        have hf1 : ¬ ((64 : Nat) : Int) < 64 := by omega
        have hst := run_ownedB (P := Try.prog) hown7 (by decide) Try.underlying22 Try.underlying5 Try.underlying9
        obtain ⟨w7, hw7⟩ : ∃ w7, w6.setCell ⟨bs, 0, none⟩ (.string (bstr (fun j => f (N + k + (u + j))) (M - u))) = w7 := ⟨_, rfl⟩
        rw [hw7] at hbs7 hcl7 hbt7 hfr7 hown7 hst ct7 cp7
        gi_wp2
        clear hst hcl6 hbs6 hbt6 hfr6 hown6 c6 f6 ct7 cp7 hw7
        refine wpIn_wide.2 ?_
        refine wp_region_txt [] 6 (fun W => W.heap[bt]? = some (.cells #[.pointer (some ⟨p, 0, none⟩)] 58) ∧ W.heap[p]? = some (.cells (stCells (hashN f c) (.slice (some ⟨g, 0, none⟩) 64 cap) n) 92)) (by kernel_rfl) (by kernel_rfl) (fun _ _ _ _ _ h => h) ?_ ?_
        · exact ⟨hp_drew hbt7, hp_drew hcl7⟩
        simp only [List.take_succ_cons, List.take_zero, List.drop_succ_cons, List.drop_zero]
        repeat (first
          | (refine txt_not rfl rfl rfl ?_
             simp only [Act.put, List.setIfInBounds_toArray, List.set_cons_zero, List.set_cons_succ])
          | (apply txt_val rfl rfl rfl
             case h => (intro w1 hC; have ct := cell_of hC.1 0; have cp := st_v hC.2; clear hC; go_simp; rfl)
             simp only [Act.put, List.setIfInBounds_toArray, List.set_cons_zero, List.set_cons_succ]))
        refine txt_nil ?_
        repeat (first
          | (refine seq_not rfl ?_
             simp only [Act.put, List.setIfInBounds_toArray, List.set_cons_zero, List.set_cons_succ])
          | (apply seq_val rfl
             case h => (go_simp; first | (simp only [bv_wrap, bv_xor, bv_and, bv_or, bv_add, bw_add, bv_not, bv_sgn, bv_nots, bv_shl24, bv_shl16, bv_shl8, bw_shl24, bw_shl16, bw_shl8, bv_shr3, bv_shr10]; rfl) | simp only [bv_wrap, bv_xor, bv_and, bv_or, bv_add, bw_add, bv_not, bv_sgn, bv_nots, bv_shl24, bv_shl16, bv_shl8, bw_shl24, bw_shl16, bw_shl8, bv_shr3, bv_shr10] | rfl)
             simp only [Act.put, List.setIfInBounds_toArray, List.set_cons_zero, List.set_cons_succ]))
        have c7 := st_v (hp_drew hcl7)
        have f7 := frozen_of (hp_drew hcl7) 8
        refine seq_skip (w' := w7.drew.setCell ⟨p, 8, none⟩ (.slice (some ⟨g, 0, none⟩) 0 cap)) rfl (by go_simp) ?_
        simp only [Act.put]
        refine wpList_nil ?_
        have hcl8 := st_set_v (hp_drew hcl7) (.slice (some ⟨g, 0, none⟩) 0 cap)
        have hbs8 := hp_set_ne (b' := p) (o := 8) (v := .slice (some ⟨g, 0, none⟩) 0 cap) (hp_drew hbs7) hps
        have hfr8 := hfr7.drew.setCell (p := ⟨p, 8, none⟩) hXp (.slice (some ⟨g, 0, none⟩) 0 cap)
        have hown8 := owns_none (owns_same (w' := w7.drew.setCell ⟨p, 8, none⟩ (.slice (some ⟨g, 0, none⟩) 0 cap)) hown7 (fun g' hg' => by
          simp only [Value.ownBlock, Option.some.injEq] at hg'
          subst hg'
          exact Below.heap_setCell _ _ _ _ hgp))
        generalize w7.drew.setCell ⟨p, 8, none⟩ (.slice (some ⟨g, 0, none⟩) 0 cap) = w8 at *
        clear hbs7 hcl7 hbt7 hfr7 hown7 c7 f7
        obtain ⟨fn, tmps, assign, body, hy, hR⟩ := hY c w8 _ (by omega) hcl8 hfr8
        gi_wp2
        refine hR.mono ?_
        rintro e W3 ⟨rfl, hcl9, hfr9⟩
        gi_wp2
        have hbs9 := hfr9.at_ hbs8 hps
        go_roundw
        case rel =>
          refine ⟨k + u, .slice (some ⟨g, 0, none⟩) 0 cap, by omega, .inr (by omega), ⟨?_, ?_⟩, ?_, hfr8.trans' hfr9 (fun i _ h => h ▸ hXp)⟩
          · rw [show (N + (k + u)) / 64 = c + 1 by omega]; exact hcl9
          · rw [show (N + (k + u)) % 64 = 0 by omega]
            exact owns_same hown8 (fun g' hg' => by
              simp only [Value.ownBlock, Option.some.injEq] at hg'
              subst hg'
              exact hfr9.block _ ((hown8.lt _ rfl).2) hgp)
          · rw [hbs9, show (fun j => f (N + (k + u) + j)) = fun j => f (N + k + (u + j)) from funext fun j => by congr 1; omega, show m - (k + u) = M - u by omega]
            rfl
        case measure =>
          rw [hms.out, strLen_at (hbs9.trans rfl), bstr_size]
          omega
end Go.Proofs.Ytggbjpebdmlahaa
