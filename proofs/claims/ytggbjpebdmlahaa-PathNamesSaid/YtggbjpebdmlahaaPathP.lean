/- codec.GetBase32 to 20 bytes: which texts say something. No conditions beyond the size. -/
import Derived.Test.YtggbjpebdmlahaaPathP0
import Derived.Test.YtggbjpebdmlahaaPathI
namespace Go.Num
open Go Go.RowKit
/-- Two results set, the block for deferred calls shut: what lies there. -/
theorem two_set {w w6 : World} {S T : Nat} {A B : TypeId} {s x : Value} {b y : Value} (hST : S + 1 < T) (h4 : w6.heap[S]? = some (.cells #[x] A)) (h5 : w6.heap[S + 1]? = some (.cells #[y] B)) (hd : w6.heap[T]? = some (.deferred (some []))) (hb : Below S w w6) :
    let w7 := (w6.setCell ⟨S, 0, none⟩ s).setCell ⟨S + 1, 0, none⟩ b
    w7.heap[T]? = some (.deferred (some [])) ∧ (w7.putObj T (.deferred none)).cell? ⟨S, 0, none⟩ = some s ∧ (w7.putObj T (.deferred none)).cell? ⟨S + 1, 0, none⟩ = some b ∧ Below S w (w7.putObj T (.deferred none)) := by
  intro w7
  have p4 : w7.heap[S]? = some (.cells #[s] A) := hp_set_ne (hp_set h4) (by omega)
  have p5 : w7.heap[S + 1]? = some (.cells #[b] B) := hp_set (hp_set_ne h5 (by omega))
  have pd : w7.heap[T]? = some (.deferred (some [])) := hp_set_ne (hp_set_ne hd (by omega)) (by omega)
  refine ⟨pd, ?_, ?_, ?_⟩
  · rw [cell_of ((World.putObj_heap_other (by omega)).trans p4)]; rfl
  · rw [cell_of ((World.putObj_heap_other (by omega)).trans p5)]; rfl
  · have h7 : Below S w w7 := (hb.setCell (p := ⟨S, 0, none⟩) (Nat.le_refl _) _).setCell (p := ⟨S + 1, 0, none⟩) (Nat.le_succ _) _
    exact h7.trans ⟨rfl, rfl, rfl, by simp, fun k hk => World.putObj_heap_other (by omega)⟩
end Go.Num
namespace Go.Proofs.Ytggbjpebdmlahaa
open Go.RowKit Go.Mono Go.Num Go.Shelf
attribute [local go_sem] Oper.semAt_some
theorem letters_lit : (⟨#[48, 49, 50, 51, 52, 53, 54, 55, 56, 57, 97, 98, 99, 100, 102, 103, 104, 105, 106, 107, 108, 109, 110, 112, 113, 114, 115, 118, 119, 120, 121, 122]⟩ : ByteArray) = letters32 := rfl
/-- What lies in memory when k letters have come. -/
structure G32 (w W : World) (S T : Nat) (G : Nat → Nat) (n k t h X : Nat) (v : Value) (L : Loop) : Prop where
  all : ∀ j, j < k → 0 ≤ val32 (G j)
  c4 : W.heap[S]? = some (.cells #[.string ⟨#[]⟩] 9)
  c5 : W.heap[S + 1]? = some (.cells #[.bool false] 4)
  lop : W.heap[T + 6]? = some (.loop L)
  dfr : W.heap[T + 5]? = some (.deferred (some []))
  below : Below S w W
  eq : 5 * k = 8 * t + h
  val : X = valN (fun j => (val32 (G j)).toNat) k / 256 ^ t
  c7 : W.heap[T]? = some (.cells #[v] 22)
  c8 : W.heap[T + 1]? = some (.cells #[.int .i64 (X : Nat)] 3)
  c9 : W.heap[T + 2]? = some (.cells #[.int .i64 (h : Nat)] 3)
  row : W.ownsRow (T + 8) 5 1 v t (bl (byV (fun j => (val32 (G j)).toNat) n) t)
/-- A letter that is none has come. -/
structure G32x (w W : World) (S T : Nat) (G : Nat → Nat) (n : Nat) (L : Loop) : Prop where
  some_ : ∃ j, j < n ∧ val32 (G j) < 0
  c4 : W.heap[S]? = some (.cells #[.string ⟨#[]⟩] 9)
  c5 : W.heap[S + 1]? = some (.cells #[.bool false] 4)
  lop : W.heap[T + 6]? = some (.loop L)
  dfr : W.heap[T + 5]? = some (.deferred (some []))
  below : Below S w W
set_option maxRecDepth 100000 in
set_option maxHeartbeats 2000000 in
theorem getBase32_any (f : Nat → Nat) (n : Nat) (w : World) (hn : n < 100000) (hf : ∀ j, f j < 256) :
    Calls Try.prog 43 #[.string (bstr f n), .int .i64 20] w fun e w' => ∃ s, e = .returned (.tuple #[.string s, .bool (mayPart f n)]) ∧ Below w.heap.size w w' := by
  obtain ⟨i0, hi0, hz0, hz1, hz2⟩ := info_parts info_byte
  have hsz := bstr_size f n
  refine callsIn_wide.1 (callsIn_of_wp_marks (n := 5) Try.func43 rfl trivial ?_ rfl)
  simp only [Try.ntmps43, List.size_toArray, List.length_cons, List.length_nil, Nat.reduceAdd, Nat.reduceSub, Array.replicate_succ, Array.replicate_zero, List.push_toArray, List.append_toArray, List.nil_append, List.cons_append]
  refine wpIn_wide.2 ?_
  go_upto_region 3 with (fail)
  obtain ⟨w1, hq_w1⟩ : ∃ w1, ((w.alloc (.cells #[.string ⟨#[]⟩] 9)).alloc (.cells #[.bool false] 4)) = w1 := ⟨_, rfl⟩
  have h4 : w1.heap[w.heap.size]? = some (.cells #[.string ⟨#[]⟩] 9) := by rw [← hq_w1]; exact hp_old _ (hp_new _ (by simp))
  have h5 : w1.heap[w.heap.size + 1]? = some (.cells #[.bool false] 4) := by rw [← hq_w1]; exact hp_new _ (by simp)
  have hs_w1 : w1.heap.size = w.heap.size + 2 := by rw [← hq_w1]; simp
  have hw_w1 : Below w.heap.size w w1 := by rw [← hq_w1]; exact ((Below.refl w.heap.size w).alloc (Nat.le_refl _) _).alloc (by simp) _
  rw [hq_w1]
  clear hq_w1
  obtain ⟨c, s, z, w2, hz, hs32, hcv, hs0, hb0⟩ := run_bytes_new (P := Try.prog) w1 9 22 5 n f hf Try.underlying9 Try.underlying22 Try.underlying5
  have hl0 := Go.Mono.lt_of_some hs0
  replace h4 := keep hb0 h4
  replace h5 := keep hb0 h5
  replace hw_w1 := below_tr' hw_w1 hb0
  have hl1 : w.heap.size + 2 < w2.heap.size := by omega
  rw [hs_w1] at hs0 hcv
  clear hb0 hl0 hs_w1
  go_upto_region 5 with (go_at_call 50; refine (reverse_any f n (w.heap.size + 2) c (c - n) z _ hn ⟨s, hz, hs32⟩ hs0).mono ?_; rintro e w3 ⟨rfl, hb3, hs3⟩)
  have hl3 := hb3.size
  have h43 := (hb3.block _ (by omega)).trans h4
  have h53 := (hb3.block _ (by omega)).trans h5
  have hw3 : Below w.heap.size w w3 := hw_w1.trans (hb3.mono (by omega))
  have hsT : w.heap.size + 2 < w3.heap.size := by omega
  clear hcv hs0 h4 h5 hw_w1 hb3 hl1 hl3
  go_upto_region 7 with (fail)
  obtain ⟨w4, hq_w4⟩ : ∃ w4, (((w3.alloc (.cells #[.slice none 0 0] 22)).alloc (.cells #[.int .i64 0] 3)).alloc (.cells #[.int .i64 0] 3)) = w4 := ⟨_, rfl⟩
  have hv7 : w4.heap[w3.heap.size]? = some (.cells #[.slice none 0 0] 22) := by rw [← hq_w4]; exact hp_old _ (hp_old _ (hp_new _ (by simp)))
  have hv8 : w4.heap[w3.heap.size + 1]? = some (.cells #[.int .i64 0] 3) := by rw [← hq_w4]; exact hp_old _ (hp_new _ (by simp))
  have hv9 : w4.heap[w3.heap.size + 1 + 1]? = some (.cells #[.int .i64 0] 3) := by rw [← hq_w4]; exact hp_new _ (by simp)
  have hs_w4 : w4.heap.size = w3.heap.size + 3 := by rw [← hq_w4]; simp
  have hw_w4 : Below w3.heap.size w3 w4 := by rw [← hq_w4]; exact (((Below.refl w3.heap.size w3).alloc (Nat.le_refl _) _).alloc (by simp) _).alloc (by simp; omega) _
  rw [hq_w4]
  clear hq_w4
  have hst := run_brow (P := Try.prog) (c := c) (keep hw_w4 hs3) Try.underlying22 Try.underlying5 Try.underlying9
  obtain ⟨T, hT⟩ : ∃ T, w3.heap.size = T := ⟨_, rfl⟩
  obtain ⟨S, hS⟩ : ∃ S, w.heap.size = S := ⟨_, rfl⟩
  rw [hT] at hv7 hv8 hv9 hs_w4 hsT ⊢
  rw [hS] at hst hsT h43 h53 hw3 ⊢
  go_wp2_with (go_at_call 61; refine (values_any _ _ _).mono ?_; rintro e w' ⟨rfl, rfl⟩)
  have h44 := keep hw_w4 h43
  have h54 := keep hw_w4 h53
  have hw4b : Below S w w4 := hw3.trans (hw_w4.mono (by omega))
  rw [letters_lit]
  obtain ⟨w5, hq_w5⟩ : ∃ w5, ((w4.alloc (.cells #[.string (bstr (fun j => f (n - 1 - j)) n)] 9)).alloc (.cells #[.string letters32] 9)) = w5 := ⟨_, rfl⟩
  have hbs : w5.heap[w4.heap.size]? = some (.cells #[.string (bstr (fun j => f (n - 1 - j)) n)] 9) := by rw [← hq_w5]; exact hp_old _ (hp_new _ (by simp))
  have hbl : w5.heap[w4.heap.size + 1]? = some (.cells #[.string letters32] 9) := by rw [← hq_w5]; exact hp_new _ (by simp)
  have hs_w5 : w5.heap.size = w4.heap.size + 2 := by rw [← hq_w5]; simp
  have hw_w5 : Below w4.heap.size w4 w5 := by rw [← hq_w5]; exact ((Below.refl w4.heap.size w4).alloc (Nat.le_refl _) _).alloc (by simp) _
  rw [hq_w5]
  clear hq_w5
  have h45 := keep hw_w5 h44
  have h55 := keep hw_w5 h54
  have hv75 := keep hw_w5 hv7
  have hv85 := keep hw_w5 hv8
  have hv95 := keep hw_w5 hv9
  have hw5b : Below S w w5 := hw4b.trans (hw_w5.mono (by omega))
  rw [hs_w4] at hbs hbl hs_w5
  clear hst hs3 h43 h53 hw3 hv7 hv8 hv9 hw_w4 h44 h54 hw4b hw_w5
  refine (wpIn_wide (n := 5)).1 ?_
  refine wpIn_rangeFunc_raw rfl (by decide) (gf := 76) (lb := #[.pointer (some ⟨T + 3, 0, none⟩), .pointer (some ⟨T + 3 + 1, 0, none⟩)]) rfl trivial (enters_of Try.func76 (by kernel_rfl) rfl) ?_
  intro rec W1 hW1 hYr
  have hS5 : w5.heap.size = T + 5 := by omega
  have hD1 : W1.heap[T + 5]? = some (.deferred (some [])) := by rw [hW1]; exact hp_old _ (hp_new _ hS5.symm)
  have hL1 : W1.heap[T + 6]? = some (.loop (rec .ready none)) := by rw [hW1]; exact hp_new _ (by simp [hS5])
  have hs1 : W1.heap.size = T + 7 := by rw [hW1]; simp [hS5]
  have hw1 : Below w5.heap.size w5 W1 := by rw [hW1]; exact ((Below.refl _ _).alloc (Nat.le_refl _) _).alloc (by simp) _
  rw [hS5] at hYr ⊢
  clear hW1
  show CallsIn Fence.wide (3 + 1) Try.prog 76 #[.func (.yield (T + 6)) #[] #[], .pointer (some ⟨T + 3, 0, none⟩), .pointer (some ⟨T + 3 + 1, 0, none⟩)] W1 _
  obtain ⟨G, hG⟩ : ∃ G, (fun j => f (n - 1 - j)) = G := ⟨_, rfl⟩
  rw [hG] at hbs
  have hGf : ∀ j, G j < 256 := fun j => by rw [← hG]; exact hf _
  refine (values1_any (T + 3) (T + 3 + 1) (T + 6) 3 n G W1 (fun k W => ∃ t h X v, h < 8 ∧ G32 w W S T G n k t h X v (rec .ready none)) (fun W => G32x w W S T G n (rec .done (some .ret))) hGf hn (keep hw1 hbs) (keep hw1 hbl) ?hJ0 ?hY).mono ?_
  case hJ0 =>
    intro W2 hb2
    exact ⟨0, 0, 0, .slice none 0 0, by omega, fun j hj => absurd hj (Nat.not_lt_zero _), keep hb2 (keep hw1 h45), keep hb2 (keep hw1 h55), keep hb2 hL1, keep hb2 hD1, (hw5b.trans (hw1.mono (by omega))).trans (hb2.mono (by omega)), rfl, by simp [valN], keep hb2 (keep hw1 hv75), keep hb2 (keep hw1 hv85), keep hb2 (keep hw1 hv95), World.ownsRow_nil _ _ _ _⟩
  case hY =>
    rintro k W hk ⟨t, h, X, v, hh, hJ⟩ hWs
    refine hYr _ W _ rfl hJ.lop ?_
    unfold RawRound
    have hST := hsT
    have o4 : (W.putObj (T + 5 + 1) (.loop (rec .busy none))).heap[S]? = some (.cells #[.string ⟨#[]⟩] 9) := (World.putObj_heap_other (by omega)).trans hJ.c4
    have o5 : (W.putObj (T + 5 + 1) (.loop (rec .busy none))).heap[S + 1]? = some (.cells #[.bool false] 4) := (World.putObj_heap_other (by omega)).trans hJ.c5
    have ol : (W.putObj (T + 5 + 1) (.loop (rec .busy none))).heap[T + 5 + 1]? = some (.loop (rec .busy none)) := World.putObj_heap_same (Go.Mono.lt_of_some hJ.lop)
    have od : (W.putObj (T + 5 + 1) (.loop (rec .busy none))).heap[T + 5]? = some (.deferred (some [])) := (World.putObj_heap_other (by omega)).trans hJ.dfr
    have ob : Below S w (W.putObj (T + 5 + 1) (.loop (rec .busy none))) := hJ.below.trans ⟨rfl, rfl, rfl, by simp, fun k hk => World.putObj_heap_other (by omega)⟩
    have d4 := cell_of o4 0
    have d5 := cell_of o5 0
    have f4 := frozen_of o4 0
    have f5 := frozen_of o5 0
    have hlop := hJ.lop
    rcases val32_cases ⟨G k, hGf k⟩ with hneg | ⟨hp1, hp2, _⟩
    · simp only at hneg
      gi_wp2
      rw [setCell_self (show _ = some (Value.string ⟨#[]⟩) from d4), setCell_self (show _ = some (Value.bool false) from d5)]
      have hlt := Go.Mono.lt_of_some ol
      refine ⟨ol, .inr ⟨rfl, ⟨⟨k, hk, by omega⟩, ?_, ?_, World.putObj_heap_same hlt, ?_, ?_⟩⟩⟩
      · exact (World.putObj_heap_other (by omega)).trans o4
      · exact (World.putObj_heap_other (by omega)).trans o5
      · exact (World.putObj_heap_other (by omega)).trans od
      · exact ob.trans ⟨rfl, rfl, rfl, by simp, fun k hk => World.putObj_heap_other (by omega)⟩
    · simp only at hp1 hp2
      obtain ⟨x, hx⟩ : ∃ x : Nat, val32 (G k) = x := ⟨(val32 (G k)).toNat, by omega⟩
      rw [hx] at hp1 hp2
      have hx0 : ¬ (x : Int) < 0 := by omega
      clear d4 d5 f4 f5
      rw [hx]
      have hvals : ∀ j, j < k → (val32 (G j)).toNat < 32 := fun j hj => by
        rcases val32_cases ⟨G j, hGf j⟩ with h | ⟨_, h2, _⟩
        · have := hJ.all j hj
          simp only at h
          omega
        · simp only at h2
          omega
      have hX := valN_part (fun j => (val32 (G j)).toNat) k t h hvals hJ.eq
      rw [← hJ.val] at hX
      have hst := valN_step (fun j => (val32 (G j)).toNat) k t h hJ.eq
      rw [← hJ.val] at hst
      simp only [hx, Int.toNat_natCast] at hst
      have h28 : (2 : Nat) ^ h ≤ 2 ^ 7 := Nat.pow_le_pow_right (by decide) (by omega)
      have hor := or_join X x h hX (by omega) (by omega)
      have hzz : x * 2 ^ h ≤ 31 * 2 ^ 7 := Nat.mul_le_mul (by omega) h28
      have hsh : IntKind.i64.wrap ((x : Int) * 2 ^ h) = ((x * 2 ^ h : Nat) : Int) := by
        rw [show ((x : Int) * 2 ^ h) = ((x * 2 ^ h : Nat) : Int) by rw [Int.natCast_mul, Int.natCast_pow]; rfl]
        exact wrap_i64_small _ (by omega)
      have hmin : min h 64 = h := by omega
      obtain ⟨Z, hZ⟩ : ∃ Z, x * 2 ^ h = Z := ⟨_, rfl⟩
      obtain ⟨Y, hY⟩ : ∃ Y, X + Z = Y := ⟨_, rfl⟩
      rw [hZ] at hor hsh hst hzz
      rw [hY] at hor hst
      have hYb : Y < 10000 := by omega
      have HY : Hid (Y = valN (fun j => (val32 (G j)).toNat) (k + 1) / 256 ^ t) := hst.symm
      have o7 : (W.putObj (T + 5 + 1) (.loop (rec .busy none))).heap[T]? = some (.cells #[v] 22) := (World.putObj_heap_other (by omega)).trans hJ.c7
      have o8 : (W.putObj (T + 5 + 1) (.loop (rec .busy none))).heap[T + 1]? = some (.cells #[.int .i64 (X : Nat)] 3) := (World.putObj_heap_other (by omega)).trans hJ.c8
      have o9 : (W.putObj (T + 5 + 1) (.loop (rec .busy none))).heap[T + 1 + 1]? = some (.cells #[.int .i64 (h : Nat)] 3) := (World.putObj_heap_other (by omega)).trans hJ.c9
      have orow : (W.putObj (T + 5 + 1) (.loop (rec .busy none))).ownsRow (T + 8) 5 1 v t (bl (byV (fun j => (val32 (G j)).toNat) n) t) := owns_same hJ.row (fun g hg => World.putObj_heap_other (by have := (hJ.row.lt g hg).1; omega))
      have okeep : ∀ b, b ≠ T + 6 → (W.putObj (T + 5 + 1) (.loop (rec .busy none))).heap[b]? = W.heap[b]? := fun b hb => World.putObj_heap_other (by omega)
      have osz : (W.putObj (T + 5 + 1) (.loop (rec .busy none))).heap.size = W.heap.size := by simp
      have heq := hJ.eq
      have hall : ∀ j, j < k + 1 → 0 ≤ val32 (G j) := fun j hj => by
        by_cases h1 : j = k
        · subst h1; omega
        · exact hJ.all j (by omega)
      clear hst hX hZ hY hzz h28 hvals hJ
      gi_wp2
      generalize W.putObj (T + 5 + 1) (.loop (rec .busy none)) = W5 at *
      refine wpIn_region_txt (T + 5 + 1) [] 5 (fun W => W.heap[T + 1]? = some (.cells #[.int .i64 (X : Nat)] 3) ∧ W.heap[T + 1 + 1]? = some (.cells #[.int .i64 (h : Nat)] 3)) (by kernel_rfl) (by kernel_rfl) (by kernel_rfl) ?_ ?_ ?_ ?_
      · rintro ⟨a, w, h⟩
        exact h
      · exact fun _ _ _ _ _ h => h
      · exact ⟨o8, o9⟩
      simp only [List.take_succ_cons, List.take_zero, List.drop_succ_cons, List.drop_zero]
      repeat (first
        | (refine txt_not rfl rfl rfl ?_
           simp only [Act.put, List.setIfInBounds_toArray, List.set_cons_zero, List.set_cons_succ])
        | (apply txt_val rfl rfl rfl
           case h => (intro w1 hC; have c8 := cell_of hC.1 0; have c9 := cell_of hC.2 0; clear hC; go_simp; rfl)
           simp only [Act.put, List.setIfInBounds_toArray, List.set_cons_zero, List.set_cons_succ]))
      refine txt_nil ?_
      have c8 := cell_of (hp_drew o8) 0
      have f8 := frozen_of (hp_drew o8) 0
      refine seq_skip (w' := W5.drew.setCell ⟨T + 1, 0, none⟩ (.int .i64 (Y : Nat))) rfl (by go_simp) ?_
      simp only [Act.put]
      refine wpList_nil ?_
      have p8 := hp_set (o := 0) (v := .int .i64 (Y : Nat)) (hp_drew o8)
      have hfr6 : Fr (fun k => k = T ∨ k = T + 1 ∨ k = T + 1 + 1 ∨ T + 8 ≤ k) W5 (W5.drew.setCell ⟨T + 1, 0, none⟩ (.int .i64 (Y : Nat))) := (Fr.refl _ W5).drew.setCell (p := ⟨T + 1, 0, none⟩) (.inr (.inl rfl)) _
      have p7 := hp_set_ne (b' := T + 1) (o := 0) (v := .int .i64 (Y : Nat)) (hp_drew o7) (by omega)
      have p9 := hp_set_ne (b' := T + 1) (o := 0) (v := .int .i64 (Y : Nat)) (hp_drew o9) (by omega)
      have prow := owns_same (w' := W5.drew.setCell ⟨T + 1, 0, none⟩ (.int .i64 (Y : Nat))) orow (fun g hg => Below.heap_setCell _ _ _ _ (by have := (orow.lt g hg).1; show g ≠ T + 1; omega))
      generalize W5.drew.setCell ⟨T + 1, 0, none⟩ (.int .i64 (Y : Nat)) = W6 at *
      have c9 := cell_of p9 0
      have f9 := frozen_of p9 0
      clear c8 f8 o7 o8 o9 orow hor hsh hmin
      have q9 := hp_set (o := 0) (v := .int .i64 ((h : Int) + 5)) p9
      have q7 := hp_set_ne (b' := T + 1 + 1) (o := 0) (v := .int .i64 ((h : Int) + 5)) p7 (by omega)
      have q8 := hp_set_ne (b' := T + 1 + 1) (o := 0) (v := .int .i64 ((h : Int) + 5)) p8 (by omega)
      have hfr7 := hfr6.setCell (p := ⟨T + 1 + 1, 0, none⟩) (.inr (.inr (.inl rfl))) (.int .i64 ((h : Int) + 5))
      have qrow := owns_same (w' := W6.setCell ⟨T + 1 + 1, 0, none⟩ (.int .i64 ((h : Int) + 5))) prow (fun g hg => Below.heap_setCell _ _ _ _ (by have := (prow.lt g hg).1; show g ≠ T + 1 + 1; omega))
      gi_wp2
      generalize decide ((x : Int) < 0) = bb
      clear hx0 hx hp1 hp2 c9 f9 p7 p8 p9 prow hfr6
      gi_loopw [34] (fun _ wr => ∃ (t h X : Nat) (v : Value), 5 * (k + 1) = 8 * t + h ∧ h < 13 ∧ Hid (X = valN (fun j => (val32 (G j)).toNat) (k + 1) / 256 ^ t ∧ X < 10000) ∧ wr.heap[T]? = some (.cells #[v] 22) ∧ wr.heap[T + 1]? = some (.cells #[.int .i64 (X : Nat)] 3) ∧ wr.heap[T + 1 + 1]? = some (.cells #[.int .i64 (h : Nat)] 3) ∧
        wr.ownsRow (T + 8) 5 1 v t (bl (byV (fun j => (val32 (G j)).toNat) n) t) ∧ Fr (fun k => k = T ∨ k = T + 1 ∨ k = T + 1 + 1 ∨ T + 8 ≤ k) W5 wr) (fun _ wr => (match wr.cell? ⟨T + 1 + 1, 0, none⟩ with | some (.int _ q) => q.toNat | _ => 0))
      case atStart => exact ⟨t, h + 5, Y, v, by omega, by omega, ⟨HY.out, hYb⟩, q7, q8, q9, qrow, hfr7⟩
      case round =>
        clear q7 q8 q9 qrow hfr7 HY hYb hh heq
        obtain ⟨t, h, X, v, heq, hh, hX, q7, q8, q9, qrow, hfr⟩ := hrel
        have c7 := cell_of q7 0
        have c8 := cell_of q8 0
        have c9 := cell_of q9 0
        have hmeas : Hid ((match wr.cell? ⟨T + 1 + 1, 0, none⟩ with | some (.int _ q) => q.toNat | _ => 0) = h) := by
          show _ = h
          rw [c9]
          rfl
        by_cases h8 : 8 ≤ h
        · have h8' : (8 : Int) ≤ (h : Int) := by omega
          have hXb := hX.out.2
          have hby := byV_part (fun j => (val32 (G j)).toNat) n (k + 1) t (by omega) (by omega)
          rw [← hX.out.1] at hby
          have hX2 : Hid (X / 256 = valN (fun j => (val32 (G j)).toNat) (k + 1) / 256 ^ (t + 1) ∧ X / 256 < 10000) := by
            refine ⟨?_, by omega⟩
            rw [hX.out.1, Nat.div_div_eq_div_mul, Nat.pow_succ]
          have hsn := bl_snoc (byV (fun j => (val32 (G j)).toNat) n) t
          rw [← hby, Int.natCast_emod, show ((256 : Nat) : Int) = 256 from rfl] at hsn
          have hdiv : (X : Int) / 256 = ((X / 256 : Nat) : Int) := by omega
          obtain ⟨X3, hX3⟩ : ∃ X3, X / 256 = X3 := ⟨_, rfl⟩
          rw [hX3] at hdiv hX2
          have hwz := hfr.size
          have f7 := frozen_of q7 0
          have f8 := frozen_of q8 0
          have f9 := frozen_of q9 0
          have hWT : T + 7 < W5.heap.size := by omega
          clear hby hX hX3
          gi_wp2_with (gi_at_builtin; refine wpListIn_append_own _ rfl _ _ 22 rfl (T + 8) 5 i0 (.int .u8 0) 1 1 Try.underlying22 hi0 hz0 hz1 hz2 rfl (by decide) _ _ _ rfl (qrow.alloc _) ⟨wr.heap.size, 0, none⟩ 1 1 [.int .u8 ((X : Int) % 256)] rfl rfl (cell_one_new' _ _ _) (fun x hx => by simp at hx; subst hx; rfl) (by unfold maxLen; omega) (by omega) (by simp; omega) ?_; intro v' w3 hown' hgrow3 hnil3
                       obtain ⟨g', cap', rfl⟩ := ownsRow_succ hown'
                       have k3 : ∀ b, b < T + 8 → w3.heap[b]? = wr.heap[b]? := fun b hb => (hgrow3.block b (by simp; omega) (fun e => by have := (qrow.lt b e.symm).1; omega)).trans (Below.heap_alloc _ _ _ (by omega))
                       have r7 := (k3 T (by omega)).trans q7
                       have r8 := (k3 (T + 1) (by omega)).trans q8
                       have r9 := (k3 (T + 1 + 1) (by omega)).trans q9
                       have hfr3 : Fr (fun k => k = T ∨ k = T + 1 ∨ k = T + 1 + 1 ∨ T + 8 ≤ k) W5 w3 := (hfr.alloc _).grown hgrow3 (fun k hk _ => .inr (.inr (.inr (qrow.lt k hk).1)))
                       rw [hsn] at hown'
                       have HH : Aside (w3.ownsRow (T + 8) 5 1 (.slice (some ⟨g', 0, none⟩) (t + 1) cap') (t + 1) (bl (byV (fun j => (val32 (G j)).toNat) n) (t + 1)) ∧ Fr (fun k => k = T ∨ k = T + 1 ∨ k = T + 1 + 1 ∨ T + 8 ≤ k) W5 w3) := ⟨hown', hfr3⟩
                       have HR : Aside (w3.heap[T]? = some (.cells #[v] 22) ∧ w3.heap[T + 1]? = some (.cells #[.int .i64 (X : Nat)] 3) ∧ w3.heap[T + 1 + 1]? = some (.cells #[.int .i64 (h : Nat)] 3)) := ⟨r7, r8, r9⟩
                       have e7 := cell_of r7 0
                       have e8 := cell_of r8 0
                       have e9 := cell_of r9 0
                       have g7 := frozen_of r7 0
                       have g8 := frozen_of r8 0
                       have g9 := frozen_of r9 0
                       clear hown' hgrow3 hnil3 k3 r7 r8 r9 hfr3)
          obtain ⟨r7, r8, r9⟩ := HR.out
          obtain ⟨hown, hfr3⟩ := HH.out
          have s9 := hp_set (o := 0) (v := .int .i64 ((h : Int) - 8)) (hp_set_ne (b' := T + 1) (o := 0) (v := .int .i64 (X3 : Nat)) (hp_set_ne (b' := T) (o := 0) (v := .slice (some ⟨g', 0, none⟩) (t + 1) cap') r9 (by omega)) (by omega))
          have s8 := hp_set_ne (b' := T + 1 + 1) (o := 0) (v := .int .i64 ((h : Int) - 8)) (hp_set (o := 0) (v := .int .i64 (X3 : Nat)) (hp_set_ne (b' := T) (o := 0) (v := .slice (some ⟨g', 0, none⟩) (t + 1) cap') r8 (by omega))) (by omega)
          have s7 := hp_set_ne (b' := T + 1 + 1) (o := 0) (v := .int .i64 ((h : Int) - 8)) (hp_set_ne (b' := T + 1) (o := 0) (v := .int .i64 (X3 : Nat)) (hp_set (o := 0) (v := .slice (some ⟨g', 0, none⟩) (t + 1) cap') r7) (by omega)) (by omega)
          have hh8 : ((h : Int) - 8) = ((h - 8 : Nat) : Int) := by omega
          have srow := owns_same (w' := ((w3.setCell ⟨T, 0, none⟩ (.slice (some ⟨g', 0, none⟩) (t + 1) cap')).setCell ⟨T + 1, 0, none⟩ (.int .i64 (X3 : Nat))).setCell ⟨T + 1 + 1, 0, none⟩ (.int .i64 ((h : Int) - 8))) hown (fun g hg => by
            have h1 : T + 8 ≤ g := (hown.lt g hg).1
            rw [Below.heap_setCell _ _ _ _ (show g ≠ T + 1 + 1 by omega), Below.heap_setCell _ _ _ _ (show g ≠ T + 1 by omega), Below.heap_setCell _ _ _ _ (show g ≠ T by omega)])
          have sfr := ((hfr3.setCell (p := ⟨T, 0, none⟩) (.inl rfl) (.slice (some ⟨g', 0, none⟩) (t + 1) cap')).setCell (p := ⟨T + 1, 0, none⟩) (.inr (.inl rfl)) (.int .i64 (X3 : Nat))).setCell (p := ⟨T + 1 + 1, 0, none⟩) (.inr (.inr (.inl rfl))) (.int .i64 ((h : Int) - 8))
          have sc9 := cell_of s9 0
          generalize ((w3.setCell ⟨T, 0, none⟩ (.slice (some ⟨g', 0, none⟩) (t + 1) cap')).setCell ⟨T + 1, 0, none⟩ (.int .i64 (X3 : Nat))).setCell ⟨T + 1 + 1, 0, none⟩ (.int .i64 ((h : Int) - 8)) = w9 at *
          go_roundw
          case rel => exact ⟨t + 1, h - 8, X3, .slice (some ⟨g', 0, none⟩) (t + 1) cap', by omega, by omega, hX2, s7, s8, by rw [← hh8]; exact s9, srow, sfr⟩
          case measure =>
            rw [hmeas.out, sc9]
            show ((h : Int) - 8).toNat < h
            omega
        · have h8' : ¬ (8 : Int) ≤ (h : Int) := by omega
          gi_wp2
          have hoL := hfr.at_ ol (by omega)
          have hsz5 := hfr.size
          have hltL := Go.Mono.lt_of_some hoL
          have hfb : Below S W5 wr := hfr.below (by omega) (fun k hk => by omega)
          refine ⟨hoL, .inl ⟨rfl, ⟨t, h, by omega, X, v, ⟨hall, ?_, ?_, World.putObj_heap_same hltL, ?_, ?_, heq, hX.out.1, ?_, ?_, ?_, ?_⟩⟩, ?_, ?_, ?_⟩⟩
          · exact (World.putObj_heap_other (by omega)).trans (hfr.at_ o4 (by omega))
          · exact (World.putObj_heap_other (by omega)).trans (hfr.at_ o5 (by omega))
          · exact (World.putObj_heap_other (by omega)).trans (hfr.at_ od (by omega))
          · exact (ob.trans hfb).trans ⟨rfl, rfl, rfl, by simp, fun k hk => World.putObj_heap_other (by omega)⟩
          · exact (World.putObj_heap_other (by omega)).trans q7
          · exact (World.putObj_heap_other (by omega)).trans q8
          · exact (World.putObj_heap_other (by omega)).trans q9
          · exact owns_same qrow (fun g hg => World.putObj_heap_other (by have := (qrow.lt g hg).1; omega))
          · rw [World.putObj_size]; omega
          · rw [World.putObj_heap_other (by omega), hfr.block _ (by omega) (by omega), okeep _ (by omega)]
          · rw [World.putObj_heap_other (by omega), hfr.block _ (by omega) (by omega), okeep _ (by omega)]
  · rintro e W2 ⟨he, hJ | hJx⟩
    · obtain ⟨t, h, X, v, hh, hJ⟩ := hJ
      refine ⟨he, .inl ⟨hJ.lop, ?_⟩⟩
      have o4 : (W2.putObj (T + 5 + 1) (.loop (rec .exhausted none))).heap[S]? = some (.cells #[.string ⟨#[]⟩] 9) := (World.putObj_heap_other (by omega)).trans hJ.c4
      have o5 : (W2.putObj (T + 5 + 1) (.loop (rec .exhausted none))).heap[S + 1]? = some (.cells #[.bool false] 4) := (World.putObj_heap_other (by omega)).trans hJ.c5
      have od : (W2.putObj (T + 5 + 1) (.loop (rec .exhausted none))).heap[T + 5]? = some (.deferred (some [])) := (World.putObj_heap_other (by omega)).trans hJ.dfr
      have ob : Below S w (W2.putObj (T + 5 + 1) (.loop (rec .exhausted none))) := hJ.below.trans ⟨rfl, rfl, rfl, by simp, fun k hk => World.putObj_heap_other (by omega)⟩
      have o7 : (W2.putObj (T + 5 + 1) (.loop (rec .exhausted none))).heap[T]? = some (.cells #[v] 22) := (World.putObj_heap_other (by omega)).trans hJ.c7
      have orow : (W2.putObj (T + 5 + 1) (.loop (rec .exhausted none))).ownsRow (T + 8) 5 1 v t (bl (byV (fun j => (val32 (G j)).toNat) n) t) := owns_same hJ.row (fun g hg => World.putObj_heap_other (by have := (hJ.row.lt g hg).1; omega))
      have heq := hJ.eq
      have hall := hJ.all
      clear hJ
      generalize W2.putObj (T + 5 + 1) (.loop (rec .exhausted none)) = W3 at *
      obtain ⟨a7, k7, rfl⟩ := own_form orow
      have d4 := cell_of o4 0
      have d5 := cell_of o5 0
      have d7 := cell_of o7 0
      have f4 := frozen_of o4 0
      have f5 := frozen_of o5 0
      by_cases ht : t = 20
      · subst ht
        have hconv := run_ownedB (P := Try.prog) orow (by decide) Try.underlying22 Try.underlying5 Try.underlying9
        have hb32 := base32_any (byV (fun j => (val32 (G j)).toNat) n) 20 W3 (by decide) (by decide) (byV_lt _ n)
        have hk4 : S < W3.heap.size := Go.Mono.lt_of_some o4
        by_cases h32 : n = 32
        · have hv : ∀ j, j < 32 → 0 ≤ val32 (f j) := fun j hj => by
            have h1 := hall (31 - j) (by omega)
            rw [← hG] at h1
            simp only at h1
            rw [show n - 1 - (31 - j) = j by omega] at h1
            exact h1
          have hmp : mayPart f n = true := by
            unfold mayPart
            rw [h32, Bool.and_eq_true]
            refine ⟨rfl, ?_⟩
            rw [List.all_eq_true]
            intro j hj
            exact decide_eq_true (hv j (List.mem_range.1 hj))
          have hbk : bstr (b32S (byV (fun j => (val32 (G j)).toNat) n) 20) (len32 20) = bstr f n := by
            have eG : (fun j => (val32 (G j)).toNat) = fun j => (val32 (f (32 - 1 - j))).toNat := by rw [← hG, h32]
            rw [eG, h32]
            exact back32 f hf hv
          rw [hbk] at hb32
          clear hbk hv hall h32
          go_wp2_with (go_at_call 28; refine hb32.mono ?_; rintro e w6 ⟨rfl, hb6⟩
                       have hconv6 := run_ownedB (P := Try.prog) (ownsRow_below orow hb6) (by decide) Try.underlying22 Try.underlying5 Try.underlying9
                       have m4 := keep hb6 o4
                       have m5 := keep hb6 o5
                       have d46 := cell_of m4 0
                       have d56 := cell_of m5 0
                       have d76 := cell_of (keep hb6 o7) 0
                       have f46 := frozen_of m4 0
                       have f56 := frozen_of m5 0)
          obtain ⟨q1, q2, q3, q4⟩ := two_set (w := w) (s := .string (bstr (byV (fun j => (val32 (G j)).toNat) n) 20)) (b := .bool true) (by omega : S + 1 < T + 5) m4 m5 (keep hb6 od) (ob.trans (hb6.mono (by omega)))
          refine ⟨by simp, .inl ⟨_, _, rfl, run_takeDeferred q1, ?_⟩⟩
          refine ⟨.tuple #[.string (bstr (byV (fun j => (val32 (G j)).toNat) n) 20), .bool true], ?_, ⟨_, by rw [hmp], by rw [hS]; exact q4⟩⟩
          simp [results, Try.f43, go_sem, q2, q3]
        · have hl20 : len32 20 = 32 := rfl
          have hsz32 := bstr_size (b32S (byV (fun j => (val32 (G j)).toNat) n) 20) 32
          rw [hl20] at hb32
          have hmp : mayPart f n = false := by
            unfold mayPart
            rw [show (n == 32) = false by rw [beq_eq_false_iff_ne]; intro e; omega]
            rfl
          have hne : ¬ bstr (b32S (byV (fun j => (val32 (G j)).toNat) n) 20) 32 = bstr f n := fun e => by
            rw [e, hsz] at hsz32
            omega
          generalize bstr (b32S (byV (fun j => (val32 (G j)).toNat) n) 20) 32 = B32 at *
          have hnl : (B32.toList == (bstr f n).toList) = false := by
            rw [Bool.eq_false_iff]
            intro e
            have e2 := beq_iff_eq.1 e
            rw [Lib.toList_data, Lib.toList_data] at e2
            exact hne (ByteArray.ext (Array.ext' e2))
          go_wp2_with (go_at_call 28; refine hb32.mono ?_; rintro e w6 ⟨rfl, hb6⟩
                       have hconv6 := run_ownedB (P := Try.prog) (ownsRow_below orow hb6) (by decide) Try.underlying22 Try.underlying5 Try.underlying9
                       have m4 := keep hb6 o4
                       have m5 := keep hb6 o5
                       have d46 := cell_of m4 0
                       have d56 := cell_of m5 0
                       have d76 := cell_of (keep hb6 o7) 0
                       have f46 := frozen_of m4 0
                       have f56 := frozen_of m5 0)
          obtain ⟨q1, q2, q3, q4⟩ := two_set (w := w) (s := .string ⟨#[]⟩) (b := .bool false) (by omega : S + 1 < T + 5) m4 m5 (keep hb6 od) (ob.trans (hb6.mono (by omega)))
          refine ⟨by simp, .inl ⟨_, _, rfl, run_takeDeferred q1, ?_⟩⟩
          refine ⟨.tuple #[.string ⟨#[]⟩, .bool false], ?_, ⟨_, by rw [hmp], by rw [hS]; exact q4⟩⟩
          simp [results, Try.f43, go_sem, q2, q3]
      · have ht' : ¬ (t : Int) = 20 := by omega
        have hmp : mayPart f n = false := by
          unfold mayPart
          rw [show (n == 32) = false by rw [beq_eq_false_iff_ne]; intro e; omega]
          rfl
        go_wp2_with fail
        rw [setCell_self (show _ = some (Value.string ⟨#[]⟩) from d4), setCell_self (show _ = some (Value.bool false) from d5)]
        refine ⟨by simp, .inl ⟨_, _, rfl, run_takeDeferred od, ?_⟩⟩
        have e4 : (W3.putObj (T + 5) (.deferred none)).cell? ⟨S, 0, none⟩ = some (.string ⟨#[]⟩) := by rw [cell_of ((World.putObj_heap_other (by omega)).trans o4)]; rfl
        have e5 : (W3.putObj (T + 5) (.deferred none)).cell? ⟨S + 1, 0, none⟩ = some (.bool false) := by rw [cell_of ((World.putObj_heap_other (by omega)).trans o5)]; rfl
        refine ⟨.tuple #[.string ⟨#[]⟩, .bool false], ?_, ⟨⟨⟨#[]⟩, rfl⟩, ?_⟩⟩
        · simp [results, Try.f43, go_sem, e4, e5]
        · exact ob.trans ⟨rfl, rfl, rfl, by simp, fun k hk => World.putObj_heap_other (by omega)⟩
    · refine ⟨he, .inr ⟨.ret, hJx.lop, ?_⟩⟩
      have o4 : (W2.putObj (T + 5 + 1) (.loop (rec .exhausted (some .ret)))).heap[S]? = some (.cells #[.string ⟨#[]⟩] 9) := (World.putObj_heap_other (by omega)).trans hJx.c4
      have o5 : (W2.putObj (T + 5 + 1) (.loop (rec .exhausted (some .ret)))).heap[S + 1]? = some (.cells #[.bool false] 4) := (World.putObj_heap_other (by omega)).trans hJx.c5
      have od : (W2.putObj (T + 5 + 1) (.loop (rec .exhausted (some .ret)))).heap[T + 5]? = some (.deferred (some [])) := (World.putObj_heap_other (by omega)).trans hJx.dfr
      have ob : Below S w (W2.putObj (T + 5 + 1) (.loop (rec .exhausted (some .ret)))) := hJx.below.trans ⟨rfl, rfl, rfl, by simp, fun k hk => World.putObj_heap_other (by omega)⟩
      have hmp : mayPart f n = false := by
        obtain ⟨j, hj, hneg⟩ := hJx.some_
        unfold mayPart
        rw [Bool.and_eq_false_iff]
        refine .inr ?_
        rw [List.all_eq_false]
        refine ⟨n - 1 - j, List.mem_range.2 (by omega), ?_⟩
        rw [← hG] at hneg
        simp only at hneg
        simp only [decide_eq_true_eq]
        omega
      generalize W2.putObj (T + 5 + 1) (.loop (rec .exhausted (some .ret))) = W3 at *
      gi_wp2
      refine ⟨by simp, .inl ⟨_, _, rfl, run_takeDeferred od, ?_⟩⟩
      have e4 : (W3.putObj (T + 5) (.deferred none)).cell? ⟨S, 0, none⟩ = some (.string ⟨#[]⟩) := by rw [cell_of ((World.putObj_heap_other (by omega)).trans o4)]; rfl
      have e5 : (W3.putObj (T + 5) (.deferred none)).cell? ⟨S + 1, 0, none⟩ = some (.bool false) := by rw [cell_of ((World.putObj_heap_other (by omega)).trans o5)]; rfl
      refine ⟨.tuple #[.string ⟨#[]⟩, .bool false], ?_, ⟨⟨⟨#[]⟩, rfl⟩, ?_⟩⟩
      · simp [results, Try.f43, go_sem, e4, e5]
      · exact ob.trans ⟨rfl, rfl, rfl, by simp, fun k hk => World.putObj_heap_other (by omega)⟩
end Go.Proofs.Ytggbjpebdmlahaa
