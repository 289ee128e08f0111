/- sha.State.blocks, Write: bytes come behind all that came. No conditions beyond the sizes. -/
import Derived.Test.YtggbjpebdmlahaaHashC0
namespace Go.Num
open Go Go.RowKit
theorem round_fr {W W5 w6 w7 : World} {p l : Nat} {o : Obj} (hlW : W.heap[l]? = some o) (hl7 : l < w7.heap.size) (ho5 : ∀ k, k ≠ l → W5.heap[k]? = W.heap[k]?) (hs5 : W5.heap.size = W.heap.size ∧ W5.os = W.os ∧ W5.tape = W.tape ∧ W5.output = W.output)
    (hb6 : Below W5.drew.heap.size W5.drew w6) (hfs : Fr (fun k => k = p) w6 w7) : Fr (fun k => k = p) W (w7.putObj l o) := by
  have h1 := hfs.size
  have h2 := hb6.size
  have h3 : W5.drew.heap.size = W5.heap.size := rfl
  refine ⟨(hfs.os.trans hb6.os).trans hs5.2.1, (hfs.tape.trans hb6.tape).trans hs5.2.2.1, (hfs.output.trans hb6.output).trans hs5.2.2.2, ?_, fun k hk hkp => ?_⟩
  · rw [World.putObj_size]
    omega
  · by_cases hkl : k = l
    · subst hkl
      rw [hlW]
      exact World.putObj_heap_same hl7
    · have h4 : W5.drew.heap[k]? = W5.heap[k]? := rfl
      rw [World.putObj_heap_other hkl, hfs.block k (by omega) hkp, hb6.block k (by omega), h4, ho5 k hkl]
end Go.Num
namespace Go.Proofs.Ytggbjpebdmlahaa
open Go.RowKit Go.Mono Go.Num Go.Shelf
attribute [local go_sem] Oper.semAt_some
set_option maxRecDepth 8000 in
set_option maxHeartbeats 400000 in
theorem blocks_any (p : Nat) (s : ByteArray) (w : World) :
    Calls Try.prog 63 #[.pointer (some ⟨p, 0, none⟩), .string s] w fun e w' => e = .returned (.func (.func 77) #[] #[.pointer (some ⟨w.heap.size + 1, 0, none⟩), .pointer (some ⟨w.heap.size, 0, none⟩)]) ∧
      w' = (w.alloc (.cells #[.pointer (some ⟨p, 0, none⟩)] 58)).alloc (.cells #[.string s] 9) := by
  go_enter Try.func63, Try.ntmps63
  go_wp2_with fail
  go_ret
  exact ⟨rfl, rfl⟩
set_option maxRecDepth 100000 in
set_option maxHeartbeats 800000 in
theorem write_any (p B m N n : Nat) (f : Nat → Nat) (v : Value) (w : World) (hf : ∀ j, f j < 256) (hsz : N + m < 1000000000000) (hn : n + m < 1000000000000)
    (hst : StAt w 92 5 p B f N n v) (hB : B ≤ w.heap.size) :
    Calls Try.prog 45 #[.pointer (some ⟨p, 0, none⟩), .string (bstr (fun j => f (N + j)) m)] w (fun e w' => e = .returned (.tuple #[]) ∧
      ∃ v', StAt w' 92 5 p B f (N + m) (n + m) v' ∧ Fr (fun k => k = p ∨ B ≤ k ∧ ∃ c z, w.heap[k]? = some (.cells c 5 z)) w w') := by
  have hszb := bstr_size (fun j => f (N + j)) m
  have hcl := hst.cells
  have e9 : wrap64 ((n : Int) + (m : Int)) = ((n + m : Nat) : Int) := by unfold wrap64; omega
  refine callsIn_wide.1 (callsIn_of_wp_marks (n := 5) Try.func45 rfl trivial ?_ rfl)
  simp only [Try.ntmps45, List.size_toArray, List.length_cons, List.length_nil, Nat.reduceAdd, Nat.reduceSub, Array.replicate_succ, Array.replicate_zero, List.push_toArray, List.append_toArray, List.nil_append, List.cons_append]
  refine wpIn_wide.2 ?_
  go_upto_region 1 with (fail)
  obtain ⟨w0, hq_w0⟩ : ∃ w0, (w.alloc (.cells #[.pointer (some ⟨p, 0, none⟩)] 58)) = w0 := ⟨_, rfl⟩
  have h0 : w0.heap[w.heap.size]? = some (.cells #[.pointer (some ⟨p, 0, none⟩)] 58) := by rw [← hq_w0]; exact hp_new _ (by simp)
  have hs_w0 : w0.heap.size = w.heap.size + 1 := by rw [← hq_w0]; simp
  have hw_w0 : Below w.heap.size w w0 := by rw [← hq_w0]; exact (Below.refl w.heap.size w).alloc (Nat.le_refl _) _
  rw [hq_w0]
  clear hq_w0
  have lp := Go.Mono.lt_of_some hcl
  have hcl0 := keep hw_w0 hcl
  have c9 := st_n hcl0
  have f9 := frozen_of hcl0 9
  have c0 := cell_of h0 0
  have hst1 : StAt (w0.setCell ⟨p, 9, none⟩ (.int .i64 ((n : Int) + (m : Int)))) 92 5 p B f N (n + m) v :=
    ⟨by have h := st_set_n hcl0 (n + m); rw [Int.natCast_add] at h; exact h, owns_same hst.row (fun g hg => by
      rw [Below.heap_setCell _ _ _ _ (hst.ne (by decide) g hg)]
      exact hw_w0.block g (hst.row.lt g hg).2)⟩
  have h01 := hp_set_ne (b' := p) (o := 9) (v := .int .i64 ((n : Int) + (m : Int))) h0 (by omega)
  have hfr1 : Fr (fun k => k = p ∨ B ≤ k ∧ ∃ c z, w.heap[k]? = some (.cells c 5 z)) w (w0.setCell ⟨p, 9, none⟩ (.int .i64 ((n : Int) + (m : Int)))) := (Fr.of_below hw_w0).setCell (p := ⟨p, 9, none⟩) (.inl rfl) _
  have hs1 : (w0.setCell ⟨p, 9, none⟩ (.int .i64 ((n : Int) + (m : Int)))).heap.size = w.heap.size + 1 := by rw [← hs_w0]; simp [World.setCell]
  go_upto_region 3 with (fail)
  clear hst hcl hcl0 c9 f9 c0 h0 hw_w0 hs_w0
  generalize w0.setCell ⟨p, 9, none⟩ (.int .i64 ((n : Int) + (m : Int))) = w1 at *
  have c1 := cell_of h01 0
  go_wp2_with (go_at_call 63; refine (blocks_any _ _ _).mono ?_; rintro e w' ⟨rfl, rfl⟩)
  obtain ⟨w2, hq_w2⟩ : ∃ w2, ((w1.alloc (.cells #[.pointer (some ⟨p, 0, none⟩)] 58)).alloc (.cells #[.string (bstr (fun j => f (N + j)) m)] 9)) = w2 := ⟨_, rfl⟩
  have hbt : w2.heap[w1.heap.size]? = some (.cells #[.pointer (some ⟨p, 0, none⟩)] 58) := by rw [← hq_w2]; exact hp_old _ (hp_new _ (by simp))
  have hbs : w2.heap[w1.heap.size + 1]? = some (.cells #[.string (bstr (fun j => f (N + j)) m)] 9) := by rw [← hq_w2]; exact hp_new _ (by simp)
  have hs_w2 : w2.heap.size = w1.heap.size + 2 := by rw [← hq_w2]; simp
  have hw_w2 : Below w1.heap.size w1 w2 := by rw [← hq_w2]; exact ((Below.refl w1.heap.size w1).alloc (Nat.le_refl _) _).alloc (by simp) _
  rw [hq_w2]
  clear hq_w2
  have hst2 : StAt w2 92 5 p B f N (n + m) v := hst1.keep (hw_w2.block p (Go.Mono.lt_of_some hst1.cells)) (fun g hg => hw_w2.block g (hst1.row.lt g hg).2)
  have h02 := keep hw_w2 h01
  replace hfr1 := hfr1.trans (Fr.of_below hw_w2)
  clear hst1 h01 c1 hw_w2
  rw [hs1] at hbs hbt hs_w2
  obtain ⟨S, hS⟩ : ∃ S, w.heap.size = S := ⟨_, rfl⟩
  rw [hS] at hbs hbt hs_w2 h02 hB lp hs1 ⊢
  have hS2 : w2.heap.size = S + 3 := by omega
  refine (wpIn_wide (n := 5)).1 ?_
  refine wpIn_rangeFunc_raw rfl (by decide) (gf := 77) (lb := #[.pointer (some ⟨S + 1 + 1, 0, none⟩), .pointer (some ⟨S + 1, 0, none⟩)]) rfl trivial (enters_of Try.func77 (by kernel_rfl) rfl) ?_
  intro rec W1 hW1 hYr
  have hD1 : W1.heap[S + 3]? = some (.deferred (some [])) := by rw [hW1]; exact hp_old _ (hp_new _ hS2.symm)
  have hL1 : W1.heap[S + 4]? = some (.loop (rec .ready none)) := by rw [hW1]; exact hp_new _ (by simp [hS2])
  have hs3 : W1.heap.size = S + 5 := by rw [hW1]; simp [hS2]
  have hw1 : Below w2.heap.size w2 W1 := by rw [hW1]; exact ((Below.refl _ _).alloc (Nat.le_refl _) _).alloc (by simp) _
  rw [hS2] at hYr ⊢
  clear hW1
  have hst3 : StAt W1 92 5 p B f N (n + m) v := hst2.keep (hw1.block p (Go.Mono.lt_of_some hst2.cells)) (fun g hg => hw1.block g (hst2.row.lt g hg).2)
  have hbs3 := keep hw1 hbs
  have hbt3 := keep hw1 hbt
  have h03 := keep hw1 h02
  have hfr3 := hfr1.trans (Fr.of_below hw1)
  show CallsIn Fence.wide (3 + 1) Try.prog 77 #[.func (.yield (S + 4)) #[] #[], .pointer (some ⟨S + 1 + 1, 0, none⟩), .pointer (some ⟨S + 1, 0, none⟩)] W1 _
  refine (blocks1_any p B (S + 1 + 1) (S + 1) (S + 4) 3 m N (n + m) f v W1 (fun k => k = p ∨ k = S + 1 + 1 ∨ B ≤ k ∧ ∃ c z, W1.heap[k]? = some (.cells c 5 z)) hf hsz (.inl rfl) (.inr (.inl rfl)) (fun k c z hB h => .inr (.inr ⟨hB, c, z, h⟩))
    (by rintro (h | h | ⟨_, c, z, h⟩)
        · omega
        · omega
        · rw [hbt3] at h; simp at h) (by omega) (by omega) hst3 hbs3 hbt3 ?hY).mono ?_
  case hY =>
    intro c W v' hc hp hfr
    have hxL : ¬ (S + 4 = p ∨ S + 4 = S + 1 + 1 ∨ B ≤ S + 4 ∧ ∃ c z, W1.heap[S + 4]? = some (.cells c 5 z)) := by
      rintro (h | h | ⟨_, c, z, h⟩)
      · omega
      · omega
      · rw [hL1] at h; cases h
    have hlW := hfr.at_ hL1 hxL
    have h0W := hfr.at_ h03 (by
      rintro (h | h | ⟨_, c, z, h⟩)
      · omega
      · omega
      · rw [h03] at h; simp at h)
    refine hYr _ W _ rfl hlW ?_
    unfold RawRound
    gi_wp2
    obtain ⟨W5, hW5⟩ : ∃ W5, W.putObj (S + 3 + 1) (.loop (rec .busy none)) = W5 := ⟨_, rfl⟩
    have hl5 : W5.heap[S + 4]? = some (.loop (rec .busy none)) := by rw [← hW5]; exact World.putObj_heap_same (Go.Mono.lt_of_some hlW)
    have hp5 : W5.heap[p]? = some (.cells (stCells (hashN f c) v' (n + m)) 92) := by rw [← hW5]; exact (World.putObj_heap_other (by omega)).trans hp
    have h05 : W5.heap[S]? = some (.cells #[.pointer (some ⟨p, 0, none⟩)] 58) := by rw [← hW5]; exact (World.putObj_heap_other (by omega)).trans h0W
    have ho5 : ∀ k, k ≠ S + 4 → W5.heap[k]? = W.heap[k]? := fun k hk => by rw [← hW5]; exact World.putObj_heap_other hk
    have hs5 : W5.heap.size = W.heap.size ∧ W5.os = W.os ∧ W5.tape = W.tape ∧ W5.output = W.output := by rw [← hW5]; exact ⟨World.putObj_size, rfl, rfl, rfl⟩
    rw [hW5]
    clear hW5
    have hf64 : ∀ j, (fun j => f (64 * c + j)) j < 256 := fun j => hf _
    refine wpIn_region_txt _ [6] 7 (fun Wc => Wc.heap[S]? = some (.cells #[.pointer (some ⟨p, 0, none⟩)] 58) ∧ Wc.heap[p]? = some (.cells (stCells (hashN f c) v' (n + m)) 92)) (by kernel_rfl) (by kernel_rfl) (by kernel_rfl) ?_ (fun _ _ _ _ _ h => h) ?_ ?_
    · rintro ⟨a, w, h⟩
      exact h
    · exact ⟨h05, hp5⟩
    simp only [List.take_succ_cons, List.take_zero, List.drop_succ_cons, List.drop_zero]
    iterate 4
      apply txt_val rfl rfl rfl
      case h => (intro w1 hC; have c0 := cell_of hC.1 0; clear hC; go_simp; rfl)
      simp only [Act.put, List.setIfInBounds_toArray, List.set_cons_zero, List.set_cons_succ]
    refine txt_val (v := .agg (wcells (hashN f c) 8)) rfl rfl rfl (fun w1 hC => by
      have c0 := st_h0 hC.2; have c1 := st_h1 hC.2; have c2 := st_h2 hC.2; have c3 := st_h3 hC.2; have c4 := st_h4 hC.2; have c5 := st_h5 hC.2; have c6 := st_h6 hC.2; have c7 := st_h7 hC.2
      clear hC
      go_simp
      rfl) ?_
    simp only [Act.put, List.setIfInBounds_toArray, List.set_cons_zero, List.set_cons_succ]
    repeat (first
      | (refine txt_not rfl rfl rfl ?_
         simp only [Act.put, List.setIfInBounds_toArray, List.set_cons_zero, List.set_cons_succ])
      | (apply txt_val rfl rfl rfl
         case h => (intro w1 hC; clear hC; go_simp; rfl)
         simp only [Act.put, List.setIfInBounds_toArray, List.set_cons_zero, List.set_cons_succ]))
    refine txt_call rfl rfl rfl (by first | (go_simp; done) | (go_simp; rfl)) (next_any _ _ _ hf64) (fun w'' hb => ⟨keep hb h05, keep hb hp5⟩) (fun w6 hb6 => ?_)
    simp only [Act.put, List.setIfInBounds_toArray, List.set_cons_zero, List.set_cons_succ]
    refine txt_nil ?_
    repeat (first
      | (refine seq_not rfl ?_
         simp only [Act.put, List.setIfInBounds_toArray, List.set_cons_zero, List.set_cons_succ])
      | (apply seq_val rfl
         case h => (go_simp; first | (simp only [bv_wrap, bv_xor, bv_and, bv_or, bv_add, bw_add, bv_not, bv_sgn, bv_nots, bv_shl24, bv_shl16, bv_shl8, bw_shl24, bw_shl16, bw_shl8, bv_shr3, bv_shr10]; rfl) | simp only [bv_wrap, bv_xor, bv_and, bv_or, bv_add, bw_add, bv_not, bv_sgn, bv_nots, bv_shl24, bv_shl16, bv_shl8, bw_shl24, bw_shl16, bw_shl8, bv_shr3, bv_shr10] | rfl)
         simp only [Act.put, List.setIfInBounds_toArray, List.set_cons_zero, List.set_cons_succ]))
    have hp6 := keep hb6 (hp_drew hp5)
    have hl6 := keep hb6 (hp_drew hl5)
    refine wpList_store_mid rfl _ _ _ rfl p 0 (wcells (nextB (fun j => f (64 * c + j)) (hashN f c)) 8) rfl rfl (by rw [kcells_size]; exact st_there hp6) (by rw [kcells_size]; kernel_rfl) (kcells_one _ _) ?_
    simp only [Act.put]
    refine wpList_nil ?_
    have hset := st_set_h hp6 (nextB (fun j => f (64 * c + j)) (hashN f c))
    have hfs := setCells_fr (p := p) (wcells (nextB (fun j => f (64 * c + j)) (hashN f c)) 8).toList 0 w6
    have hl7 := hfs.at_ hl6 (by omega)
    generalize w6.setCells p 0 (wcells (nextB (fun j => f (64 * c + j)) (hashN f c)) 8).toList = w7 at *
    refine ⟨hl7, rfl, ?_, ?_⟩
    · rw [World.putObj_heap_other (by omega), hset]
      rfl
    · exact round_fr hlW (Go.Mono.lt_of_some hl7) ho5 hs5 hb6 hfs
  · rintro e W2 ⟨he, v2, hst4, hfr4⟩
    have hL4 := hfr4.at_ hL1 (by
      rintro (h | h | ⟨_, c, z, h⟩)
      · omega
      · omega
      · rw [hL1] at h; cases h)
    have hD4 := hfr4.at_ hD1 (by
      rintro (h | h | ⟨_, c, z, h⟩)
      · omega
      · omega
      · rw [hD1] at h; cases h)
    refine ⟨he, .inl ⟨hL4, ?_⟩⟩
    have hD5 : (W2.putObj (S + 3 + 1) (.loop (rec .exhausted none))).heap[S + 3]? = some (.deferred (some [])) := (World.putObj_heap_other (by omega)).trans hD4
    show bodyPostM Fence.wide 5 Try.prog Try.f45 _ .normal _ _
    refine ⟨by simp, .inl ⟨_, _, rfl, run_takeDeferred hD5, ?_⟩⟩
    refine ⟨_, results_none rfl _ _ _, rfl, v2, ?_, ?_⟩
    · have hne : ∀ g, v2.ownBlock = some g → g ≠ S + 3 ∧ g ≠ S + 4 := fun g hg => by
        rcases hst4.row.2 with ⟨rfl, _⟩ | ⟨g', cap, cur, rfl, _, hg', _⟩
        · simp [Value.ownBlock] at hg
        · simp [Value.ownBlock] at hg
          subst hg
          refine ⟨fun e => ?_, fun e => ?_⟩
          · rw [e, hD4] at hg'; cases hg'
          · rw [e, hL4] at hg'; cases hg'
      refine hst4.keep ?_ (fun g hg => ?_)
      · rw [World.putObj_heap_other (by omega), World.putObj_heap_other (by omega)]
      · rw [World.putObj_heap_other (hne g hg).1, World.putObj_heap_other (by have := (hne g hg).2; omega)]
    · refine Fr.putObj_new (Fr.putObj_new (hfr3.trans' hfr4 ?_) (by omega) _) (by omega) _
      intro i hi hx
      rcases hx with h | h | ⟨hBi, c, z, h⟩
      · exact .inl h
      · omega
      · by_cases hX : (i = p ∨ B ≤ i ∧ ∃ c z, w.heap[i]? = some (.cells c 5 z))
        · exact hX
        · exact .inr ⟨hBi, c, z, (hfr3.block i hi hX).symm.trans h⟩
end Go.Proofs.Ytggbjpebdmlahaa
