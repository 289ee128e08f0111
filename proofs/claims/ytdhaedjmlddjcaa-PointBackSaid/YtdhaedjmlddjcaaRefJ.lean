/- r6.FromPoint, r6.Base, r6.Order: what each call comes to. No conditions beyond bytes. -/
import Derived.Test.YtdhaedjmlddjcaaRefI
import Derived.Deep.Cut
namespace Go.Mono
open Go Go.RowKit
theorem seq_val {P : Program} {ops : Array Oper} {Q : Exit → Act → World → Prop} {o : Oper} {rest : List Oper} {a : Act} {w : World} {v : Value} (hw : Region.wanted o (yielded ops a.tmps) = true) (h : (execOp a.eval o).run P w = .ok (.value v) w)
    (hk : wpList P ops Q rest (a.put o.dst v) w) : wpList P ops Q (o :: rest) a w := by
  unfold wpList
  rw [if_pos hw]
  refine .inl ?_
  unfold Oper.wp
  rw [h]
  exact hk
end Go.Mono
namespace Go.Num
open Go Go.RowKit
abbrev spotv (x y : Nat) (b : Bool) : Value := .agg #[.int .u64 (wd x 0), .int .u64 (wd x 1), .int .u64 (wd x 2), .int .u64 (wd x 3), .int .u64 (wd y 0), .int .u64 (wd y 1), .int .u64 (wd y 2), .int .u64 (wd y 3), .bool b]
theorem spotv_zero (b : Bool) : spotv 0 0 b = .agg #[.int .u64 0, .int .u64 0, .int .u64 0, .int .u64 0, .int .u64 0, .int .u64 0, .int .u64 0, .int .u64 0, .bool b] := by simp [spotv, wd_zero]
theorem spot_no {X Y : Nat} {b : Bool} (h : b = false) : spotv (if b = true then X else 0) (if b = true then Y else 0) b = .agg #[.int .u64 0, .int .u64 0, .int .u64 0, .int .u64 0, .int .u64 0, .int .u64 0, .int .u64 0, .int .u64 0, .bool false] := by
  subst h
  exact spotv_zero false
theorem spot_yes {X Y : Nat} {b : Bool} (h : b = true) : spotv (if b = true then X else 0) (if b = true then Y else 0) b = spotv X Y true := by
  subst h
  rw [if_pos rfl, if_pos rfl]
theorem shlr_walk (a : Nat) : IntKind.u64.wrap ((wd a 3 : Int) * 2) / 2 = (wd (low a) 3 : Int) := by
  rw [low3, wrap_u64]
  have := wd_lt a 3
  omega
theorem cells4_low (a : Nat) : (cells4 a).setIfInBounds 3 (.int .u64 (wd (low a) 3)) = cells4 (low a) := by
  unfold cells4
  rw [low0, low1, low2]; rfl
theorem there45 {w : World} {b : Nat} {t : TypeId} {x0 x1 x2 x3 x4 : Value} (h : w.heap[b]? = some (.cells #[x0, x1, x2, x3, x4] t)) : w.there b 0 4 := fun j hj => by
  rw [Nat.zero_add, cell_of h, frozen_of h]
  exact ⟨by rw [Array.getElem?_eq_getElem (by simp; omega)]; rfl, rfl⟩
/-- A store of a number into the head of a variable of five cells. -/
theorem wpList_store45 {P : Program} {ops : Array Oper} {rest : List Oper} {op : Oper} {a : Act} {w : World} {Q : Exit → Act → World → Prop} {ty : TypeId} {x y : Operand} {b n : Nat} {t : TypeId} {x0 x1 x2 x3 x4 : Value}
    (hgd : op.guard = none) (ho : op.op = .store ty x y) (hx : a.eval x = .pointer (some ⟨b, 0, none⟩)) (hy : a.eval y = num n) (hb : w.heap[b]? = some (.cells #[x0, x1, x2, x3, x4] t))
    (hi : (P.info? ty).map (·.size) = some 4)
    (hk : wpList P ops Q rest (a.put op.dst undef) (st4 w b n)) : wpList P ops Q (op :: rest) a w :=
  wpList_store_mid hgd ty x y ho b 0 #[.int .u64 (wd n 0), .int .u64 (wd n 1), .int .u64 (wd n 2), .int .u64 (wd n 3)] hx hy (there45 hb) hi (by simp [Value.oneCell']) hk
theorem low_W (a : Nat) : low a < W ^ 4 := by have := low_lt a; rw [W4]; omega
theorem st4_at5 {w : World} {b n : Nat} {x0 x1 x2 x3 x4 : Value} {t : TypeId} (h : w.heap[b]? = some (.cells #[x0, x1, x2, x3, x4] t)) : (st4 w b n).heap[b]? = some (.cells #[.int .u64 (wd n 0), .int .u64 (wd n 1), .int .u64 (wd n 2), .int .u64 (wd n 3), x4] t) :=
  hp_set (hp_set (hp_set (hp_set h)))
end Go.Num
namespace Go.Proofs.Ytdhaedjmlddjcaa
open Go.RowKit Go.Mono Go.Num
theorem exec_eq0 (a b : Array Value) (Z : Bool) (w : World) (h : (Op.equalIn 10000 26 (.agg a) (.agg b)).run Try.prog w = .ok Z w) {o : Oper} {ρ : Operand → Value} (x y : Operand) (t : TypeId)
    (ho : o.op = .binOp .eql 26 x y t) (hx : ρ x = .agg a) (hy : ρ y = .agg b) : (execOp ρ o).run Try.prog w = .ok (.value (.bool Z)) w := by
  unfold execOp
  rw [ho]
  simp only [hx, hy]
  have h2 := run_eql_struct (P := Try.prog) w 26 a b
  rw [h] at h2
  clear h hx hy ho
  generalize binOp .eql 26 (.agg a) (.agg b) = B at *
  simp [go_sem]
  rw [h2]; rfl
def rfY (f : Nat → Nat) : Nat := low (numOf f 32)
def rfOdd (f : Nat → Nat) : Bool := decide (top (numOf f 32) = 1)
def rfX0 (f : Nat → Nat) : Nat := rootN (acrossA (rfY f))
def rfRt (f : Nat → Nat) : Bool := rootOk (acrossA (rfY f))
def rfLt (f : Nat → Nat) : Bool := decide (rfY f < p)
def rfZ (f : Nat → Nat) : Bool := eqN (rfX0 f) 0
def rfX (f : Nat → Nat) : Nat := if rfOdd f then fsub 0 (rfX0 f) else rfX0 f
def rfOk (f : Nat → Nat) : Bool := rfLt f && (rfRt f && !(rfOdd f && rfZ f))
set_option maxHeartbeats 4000000 in
theorem rfrom_any (f : Nat → Nat) (w : World) (hf : ∀ j, f j < 256) :
    Calls Try.prog 24 #[.string (bstr f 32)] w fun e w' => e = .returned (spotv (if rfOk f then rfX f else 0) (if rfOk f then rfY f else 0) (rfOk f)) ∧ Below w.heap.size w w' := by
  have hsz := bstr_size f 32
  have hYl := low_W (numOf f 32)
  have hnb := fun w => number_any f w hf
  have htop := top_int (numOf_lt f hf 32 : numOf f 32 < W ^ 4)
  have htl := top_le (numOf_lt f hf 32 : numOf f 32 < W ^ 4)
  have hsh := shlr_walk (numOf f 32)
  have hcl := cells4_low (numOf f 32)
  have hls := fun w => rless_any (rfY f) p w hYl p_lt
  replace hls : ∀ w, Calls Try.prog 50 #[num (rfY f), num p] w fun e w' => e = .returned (.bool (rfLt f)) ∧ Below w.heap.size w w' := hls
  have hroot := fun w => rroot_any (acrossA (rfY f)) w (lt_W (acrossA_lt _))
  replace hroot : ∀ w, Calls Try.prog 38 #[num (acrossA (rfY f))] w fun e w' => e = .returned (gotv (rfX0 f) (rfRt f)) ∧ Below w.heap.size w w' := hroot
  have hX0l : rfX0 f < p := rootN_lt _
  have hez := fun w => eq_num (rfX0 f) 0 w (lt_W hX0l) (by decide)
  rw [num_zero] at hez
  replace hez : ∀ w, (Op.equalIn 10000 26 (num (rfX0 f)) (.agg #[.int .u64 0, .int .u64 0, .int .u64 0, .int .u64 0])).run Try.prog w = .ok (rfZ f) w := hez
  have hsb := fun w => rsub_any 0 (rfX0 f) w (by decide) (lt_W hX0l)
  rw [num_zero] at hsb
  have hlow : low (numOf f 32) = rfY f := rfl
  rw [hlow] at hYl hsh hcl
  have hodd : rfOdd f = decide (top (numOf f 32) = 1) := rfl
  have hXe : (if rfOdd f then fsub 0 (rfX0 f) else rfX0 f) = rfX f := rfl
  rw [hodd] at hXe
  unfold rfOk
  rw [hodd]
  clear hodd hlow
  have hacr : fmul (fsub (fmul (rfY f) (rfY f)) 1) (finv (fadd (fmul dd (fmul (rfY f) (rfY f))) 1)) = acrossA (rfY f) := rfl
  generalize rfLt f = LT at *
  generalize rfRt f = RT at *
  generalize rfZ f = ZZ at *
  generalize rfX f = X at *
  generalize fsub 0 (rfX0 f) = NX at *
  generalize rfX0 f = X0 at *
  generalize acrossA (rfY f) = AC at *
  generalize rfY f = Y at *
  generalize top (numOf f 32) = TP at *
  generalize numOf f 32 = N at *
  obtain ⟨RV, hRV⟩ : ∃ RV, spotv (if (LT && (RT && !(decide (TP = 1) && ZZ))) = true then X else 0) (if (LT && (RT && !(decide (TP = 1) && ZZ))) = true then Y else 0) (LT && (RT && !(decide (TP = 1) && ZZ))) = RV := ⟨_, rfl⟩
  have HRV := Lib.hid hRV
  rw [hRV]
  clear hRV
  have h1 := fun w => rmulf_any Y Y w hYl hYl
  have hyy := lt_W (fmul_lt Y Y)
  generalize fmul Y Y = YY at *
  have h2 := fun w => rmulf_any dd YY w (by decide) hyy
  have h3 := fun w => radd_any (fmul dd YY) 1 w (lt_W (fmul_lt _ _)) (by decide)
  have h4 := fun w => rsub_any YY 1 w hyy (by decide)
  have h5 := fun w => rinv_any (fadd (fmul dd YY) 1) w (lt_W (fadd_lt _ _))
  have h6 := fun w => rmulf_any (fsub YY 1) (finv (fadd (fmul dd YY) 1)) w (lt_W (fsub_lt _ _)) (lt_W (finv_lt _))
  rw [hacr] at h6
  have hD := fun w => rd_any w
  have hP := fun w => rprime_any w
  rw [num_one] at h3 h4
  generalize num dd = DD at *
  generalize num p = PP at *
  clear hyy hacr hX0l hYl hf
  generalize finv (fadd (fmul dd YY) 1) = I at *
  generalize fadd (fmul dd YY) 1 = D at *
  generalize fmul dd YY = DY at *
  generalize fsub YY 1 = Y1 at *
  have HXe := Lib.hid hXe
  have Hez := Lib.hid hez
  clear hXe hez
  go_enter Try.func24, Try.ntmps24
  go_wp2_with fail
  obtain ⟨w0, hq_w0⟩ : ∃ w0, (w.alloc (.cells #[.int .u64 0, .int .u64 0, .int .u64 0, .int .u64 0, .int .u64 0, .int .u64 0, .int .u64 0, .int .u64 0, .bool false] 46)) = w0 := ⟨_, rfl⟩
  have hR : w0.heap[w.heap.size]? = some (.cells #[.int .u64 0, .int .u64 0, .int .u64 0, .int .u64 0, .int .u64 0, .int .u64 0, .int .u64 0, .int .u64 0, .bool false] 46) := by rw [← hq_w0]; exact hp_new _ (by simp)
  have hs_w0 : w0.heap.size = w.heap.size + 1 := by rw [← hq_w0]; simp
  have hw_w0 : Below w.heap.size w w0 := by rw [← hq_w0]; exact (Below.refl w.heap.size w).alloc (Nat.le_refl _) _
  rw [hq_w0]
  clear hq_w0
  clear hs_w0
  refine (hnb _).mono ?_
  rintro e w1 ⟨rfl, hb⟩
  replace hw_w0 := below_tr' hw_w0 hb
  replace hR := keep hb hR
  clear hb
  go_wp2_with fail
  have hlR := Go.Mono.lt_of_some hR
  rw [show (#[.int .u64 (wd N 0), .int .u64 (wd N 1), .int .u64 (wd N 2), .int .u64 (wd Y 3)] : Array Value) = #[.int .u64 (wd Y 0), .int .u64 (wd Y 1), .int .u64 (wd Y 2), .int .u64 (wd Y 3)] from hcl]
  obtain ⟨w2, hq_w2⟩ : ∃ w2, (w1.alloc (.cells #[.int .u64 (wd Y 0), .int .u64 (wd Y 1), .int .u64 (wd Y 2), .int .u64 (wd Y 3)] 26)) = w2 := ⟨_, rfl⟩
  have hY : w2.heap[w1.heap.size]? = some (.cells #[.int .u64 (wd Y 0), .int .u64 (wd Y 1), .int .u64 (wd Y 2), .int .u64 (wd Y 3)] 26) := by rw [← hq_w2]; exact hp_new _ (by simp)
  have hs_w2 : w2.heap.size = w1.heap.size + 1 := by rw [← hq_w2]; simp
  have hw_w2 : Below w1.heap.size w1 w2 := by rw [← hq_w2]; exact (Below.refl w1.heap.size w1).alloc (Nat.le_refl _) _
  rw [hq_w2]
  clear hq_w2
  replace hw_w0 := below_tr' hw_w0 hw_w2
  replace hR := keep hw_w2 hR
  clear hw_w2
  clear hs_w2
  generalize w1.heap.size = bN at *
  clear hsh htop hcl
  refine wp_region_calm (by kernel_rfl) (by kernel_rfl) ?_
  repeat (first
    | (refine calm_not rfl ?_
       simp only [Act.put, List.setIfInBounds_toArray, List.set_cons_zero, List.set_cons_succ])
    | (apply calm_pure rfl
       case h => (intro w1; go_simp; rfl)
       simp only [Act.put, List.setIfInBounds_toArray, List.set_cons_zero, List.set_cons_succ])
    | (apply calm_val rfl
       case h => (intro w1 hC; have cY := cell4 (keep hC (hp_drew hY)); clear hC; go_simp; rfl)
       simp only [Act.put, List.setIfInBounds_toArray, List.set_cons_zero, List.set_cons_succ]))
  refine calm_call rfl (fun w1 hC => by first | (go_simp; done) | (go_simp; rfl)) (fun w1 hC => hP w1) ?_
  simp only [Act.put, List.setIfInBounds_toArray, List.set_cons_zero, List.set_cons_succ]
  refine calm_call rfl (fun w1 hC => by first | (go_simp; done) | (go_simp; rfl)) (fun w1 hC => hls w1) ?_
  simp only [Act.put, List.setIfInBounds_toArray, List.set_cons_zero, List.set_cons_succ]
  repeat (first
    | (refine calm_not rfl ?_
       simp only [Act.put, List.setIfInBounds_toArray, List.set_cons_zero, List.set_cons_succ])
    | (apply calm_pure rfl
       case h => (intro w1; go_simp; rfl)
       simp only [Act.put, List.setIfInBounds_toArray, List.set_cons_zero, List.set_cons_succ]))
  refine wpQuiet_nil ?_
  intro w4 hC
  replace hw_w0 := below_tr hw_w0 hC
  replace hR := keep hC (hp_drew hR)
  replace hY := keep hC (hp_drew hY)
  clear hC
  have Hz := Lib.hid (spotv_zero false)
  cases LT with
  | false =>
    go_wp2_with (first | (refine wpList_storeBlk 9 rfl rfl rfl rfl hR rfl rfl (by kernel_rfl) (by kernel_rfl) ?_; intro w20 s20; simp only [Act.put]))
    exact bodyPost_ret (results_blk Try.results24 rfl s20.at_ Try.underlying46 rfl (by kernel_rfl)) rfl ⟨congrArg _ ((spot_no (by simp)).symm.trans HRV.out), s20.below hw_w0 (by omega)⟩
  | true =>
    have cY := cell4 hY
    go_wp2_with fail
    refine (h1 _).mono ?_
    rintro e w5 ⟨rfl, hb⟩
    clear cY h1
    replace hw_w0 := below_tr' hw_w0 hb
    replace hR := keep hb hR
    replace hY := keep hb hY
    clear hb
    go_wp2_with fail
    have hlY := Go.Mono.lt_of_some hY
    obtain ⟨w6, hq_w6⟩ : ∃ w6, (w5.alloc (.cells #[.int .u64 (wd YY 0), .int .u64 (wd YY 1), .int .u64 (wd YY 2), .int .u64 (wd YY 3)] 26)) = w6 := ⟨_, rfl⟩
    have hQ : w6.heap[w5.heap.size]? = some (.cells #[.int .u64 (wd YY 0), .int .u64 (wd YY 1), .int .u64 (wd YY 2), .int .u64 (wd YY 3)] 26) := by rw [← hq_w6]; exact hp_new _ (by simp)
    have hs_w6 : w6.heap.size = w5.heap.size + 1 := by rw [← hq_w6]; simp
    have hw_w6 : Below w5.heap.size w5 w6 := by rw [← hq_w6]; exact (Below.refl w5.heap.size w5).alloc (Nat.le_refl _) _
    rw [hq_w6]
    clear hq_w6
    replace hw_w0 := below_tr' hw_w0 hw_w6
    replace hR := keep hw_w6 hR
    replace hY := keep hw_w6 hY
    clear hw_w6
    clear hs_w6
    generalize w5.heap.size = bQ at *
    have lz := Go.Mono.lt_of_some (hp_drew hQ)
    refine wp_region_mono 11 12 [] (fun _ => .cells #[.int .u64 0, .int .u64 0, .int .u64 0, .int .u64 0, .bool false] 64) (by kernel_rfl) (by kernel_rfl) (fun _ _ _ _ _ h => h) ?_
    simp only [List.take_succ_cons, List.take_zero, List.drop_succ_cons, List.drop_zero]
    repeat (first
      | (apply head_pure rfl rfl rfl
         case h => (intro w1; go_simp; rfl)
         simp only [Act.put, List.setIfInBounds_toArray, List.set_cons_zero, List.set_cons_succ])
      | (apply head_val rfl rfl rfl rfl
         case h => (intro w1 hC; have cQ := cell4 (keep hC (hp_drew hQ)); clear hC; go_simp; rfl)
         simp only [Act.put, List.setIfInBounds_toArray, List.set_cons_zero, List.set_cons_succ]))
    refine head_call rfl rfl rfl rfl (fun w1 hC => by first | (go_simp; done) | (go_simp; rfl)) (fun w1 hC => h4 w1) ?_
    simp only [Act.put, List.setIfInBounds_toArray, List.set_cons_zero, List.set_cons_succ]
    refine head_call rfl rfl rfl rfl (fun w1 hC => by first | (go_simp; done) | (go_simp; rfl)) (fun w1 hC => hD w1) ?_
    simp only [Act.put, List.setIfInBounds_toArray, List.set_cons_zero, List.set_cons_succ]
    repeat (first
      | (apply head_pure rfl rfl rfl
         case h => (intro w1; go_simp; rfl)
         simp only [Act.put, List.setIfInBounds_toArray, List.set_cons_zero, List.set_cons_succ])
      | (apply head_val rfl rfl rfl rfl
         case h => (intro w1 hC; have cQ := cell4 (keep hC (hp_drew hQ)); clear hC; go_simp; rfl)
         simp only [Act.put, List.setIfInBounds_toArray, List.set_cons_zero, List.set_cons_succ]))
    refine head_call rfl rfl rfl rfl (fun w1 hC => by first | (go_simp; done) | (go_simp; rfl)) (fun w1 hC => h2 w1) ?_
    simp only [Act.put, List.setIfInBounds_toArray, List.set_cons_zero, List.set_cons_succ]
    repeat
      (apply head_pure rfl rfl rfl
       case h => (intro w1; go_simp; rfl)
       simp only [Act.put, List.setIfInBounds_toArray, List.set_cons_zero, List.set_cons_succ])
    refine head_call rfl rfl rfl rfl (fun w1 hC => by first | (go_simp; done) | (go_simp; rfl)) (fun w1 hC => h3 w1) ?_
    simp only [Act.put, List.setIfInBounds_toArray, List.set_cons_zero, List.set_cons_succ]
    refine head_call rfl rfl rfl rfl (fun w1 hC => by first | (go_simp; done) | (go_simp; rfl)) (fun w1 hC => h5 w1) ?_
    simp only [Act.put, List.setIfInBounds_toArray, List.set_cons_zero, List.set_cons_succ]
    refine head_call rfl rfl rfl rfl (fun w1 hC => by first | (go_simp; done) | (go_simp; rfl)) (fun w1 hC => h6 w1) ?_
    simp only [Act.put, List.setIfInBounds_toArray, List.set_cons_zero, List.set_cons_succ]
    refine head_call rfl rfl rfl rfl (fun w1 hC => by first | (go_simp; done) | (go_simp; rfl)) (fun w1 hC => hroot w1) ?_
    simp only [Act.put, List.setIfInBounds_toArray, List.set_cons_zero, List.set_cons_succ]
    refine head_alloc rfl rfl rfl rfl (fun w1 => by first | (go_simp; done) | (go_simp; rfl)) (fun bG hbG => ?_)
    simp only [Act.put, List.setIfInBounds_toArray, List.set_cons_zero, List.set_cons_succ]
    refine head_nil ?_
    intro w7 hC hown
    obtain ⟨hl_bG, hn_bG, hd_bG, -⟩ := hown
    replace hn_bG : w7.heap[bG]? = some (.cells #[.int .u64 0, .int .u64 0, .int .u64 0, .int .u64 0, .bool false] 64) := hn_bG
    replace hl_bG : _ ≤ bG := hl_bG
    clear hd_bG
    have lG : bQ < bG := by omega
    clear lz hl_bG hbG hQ h2 h3 h4 h5 h6 hroot hD
    replace hw_w0 := below_tr hw_w0 hC
    replace hR := keep hC (hp_drew hR)
    replace hY := keep hC (hp_drew hY)
    clear hC
    refine wpList_storeBlk 5 rfl rfl rfl rfl hn_bG rfl rfl (by kernel_rfl) (by kernel_rfl) ?_
    intro w8 s8
    simp only [Act.put]
    replace hw_w0 := s8.below hw_w0 (by omega)
    replace hR := s8.other hR (by omega)
    replace hY := s8.other hY (by omega)
    have hG := s8.at_
    clear s8 hn_bG
    have cG := cell_of hG
    cases RT with
    | false =>
      go_wp2_with (first | (refine wpList_storeBlk 9 rfl rfl rfl rfl hR rfl rfl (by kernel_rfl) (by kernel_rfl) ?_; intro w20 s20; simp only [Act.put]))
      exact bodyPost_ret (results_blk Try.results24 rfl s20.at_ Try.underlying46 rfl (by kernel_rfl)) rfl ⟨congrArg _ ((spot_no (by simp)).symm.trans HRV.out), s20.below hw_w0 (by omega)⟩
    | true =>
      rcases (show TP = 0 ∨ TP = 1 by omega) with rfl | rfl
      · have e : X0 = X := by have := HXe.out; simpa using this
        subst e
        clear HXe Hez hsb
        have cY := cell4 hY
        go_wp2_with (first | (refine wpList_storeBlk 9 rfl rfl rfl rfl hR rfl rfl (by kernel_rfl) (by kernel_rfl) ?_; intro w20 s20; simp only [Act.put]))
        exact bodyPost_ret (results_blk Try.results24 rfl s20.at_ Try.underlying46 rfl (by kernel_rfl)) rfl ⟨congrArg _ ((spot_yes (by simp)).symm.trans HRV.out), s20.below hw_w0 (by omega)⟩
      · have e : X = NX := by have := HXe.out; simpa using this.symm
        subst e
        clear HXe
        go_upto_region 10 with (fail)
        refine wp_region_lit ?_
        apply seq_val rfl
        case h => (go_simp; rfl)
        simp only [Act.put, List.setIfInBounds_toArray, List.set_cons_zero, List.set_cons_succ]
        apply seq_val rfl
        case h => (go_simp; rfl)
        simp only [Act.put, List.setIfInBounds_toArray, List.set_cons_zero, List.set_cons_succ]
        apply seq_val rfl
        case h => (go_simp; rfl)
        simp only [Act.put, List.setIfInBounds_toArray, List.set_cons_zero, List.set_cons_succ]
        apply seq_val rfl
        case h => (go_simp; rfl)
        simp only [Act.put, List.setIfInBounds_toArray, List.set_cons_zero, List.set_cons_succ]
        apply seq_val rfl
        case h => (go_simp; rfl)
        simp only [Act.put, List.setIfInBounds_toArray, List.set_cons_zero, List.set_cons_succ]
        apply seq_val rfl
        case h => (go_simp; rfl)
        simp only [Act.put, List.setIfInBounds_toArray, List.set_cons_zero, List.set_cons_succ]
        apply seq_val rfl
        case h => (go_simp; rfl)
        simp only [Act.put, List.setIfInBounds_toArray, List.set_cons_zero, List.set_cons_succ]
        apply seq_val rfl
        case h => (go_simp; rfl)
        simp only [Act.put, List.setIfInBounds_toArray, List.set_cons_zero, List.set_cons_succ]
        apply seq_val rfl
        case h => (go_simp; rfl)
        simp only [Act.put, List.setIfInBounds_toArray, List.set_cons_zero, List.set_cons_succ]
        apply seq_val rfl
        case h => (go_simp; rfl)
        simp only [Act.put, List.setIfInBounds_toArray, List.set_cons_zero, List.set_cons_succ]
        refine seq_val (v := .bool ZZ) rfl (exec_eq0 _ _ ZZ _ (Hez.out w8) _ _ _ rfl rfl rfl) ?_
        simp only [Act.put, List.setIfInBounds_toArray, List.set_cons_zero, List.set_cons_succ]
        apply seq_val rfl
        case h => (go_simp; rfl)
        simp only [Act.put, List.setIfInBounds_toArray, List.set_cons_zero, List.set_cons_succ]
        apply seq_val rfl
        case h => (go_simp; rfl)
        simp only [Act.put, List.setIfInBounds_toArray, List.set_cons_zero, List.set_cons_succ]
        refine wpList_nil ?_
        clear Hez
        cases ZZ with
        | true =>
          go_wp2_with (first | (refine wpList_storeBlk 9 rfl rfl rfl rfl hR rfl rfl (by kernel_rfl) (by kernel_rfl) ?_; intro w20 s20; simp only [Act.put]))
          exact bodyPost_ret (results_blk Try.results24 rfl s20.at_ Try.underlying46 rfl (by kernel_rfl)) rfl ⟨congrArg _ ((spot_no (by simp)).symm.trans HRV.out), s20.below hw_w0 (by omega)⟩
        | false =>
          have fG := frozen_of hG
          go_wp2_with fail
          refine (hsb _).mono ?_
          rintro e w9 ⟨rfl, hb⟩
          clear cG fG hsb
          replace hw_w0 := below_tr' hw_w0 hb
          replace hR := keep hb hR
          replace hY := keep hb hY
          replace hG := keep hb hG
          clear hb
          rename_i hK_
          refine hK_ _ _ ?_
          clear hK_
          go_upto_region 14 with (first | (refine wpList_store45 rfl rfl rfl rfl hG (by kernel_rfl) ?_; simp only [Act.put]))
          replace hw_w0 := st4_below (b := bG) (n := X) hw_w0 (by omega)
          replace hR := st4_other (b := bG) (n := X) hR (by omega)
          replace hY := st4_other (b := bG) (n := X) hY (by omega)
          replace hG := st4_at5 (n := X) hG
          generalize st4 w9 bG X = w10 at *
          have cG := cell_of hG
          have cY := cell4 hY
          clear hG hY
          go_wp2_with (first | (refine wpList_storeBlk 9 rfl rfl rfl rfl hR rfl rfl (by kernel_rfl) (by kernel_rfl) ?_; intro w20 s20; simp only [Act.put]))
          exact bodyPost_ret (results_blk Try.results24 rfl s20.at_ Try.underlying46 rfl (by kernel_rfl)) rfl ⟨congrArg _ ((spot_yes (by simp)).symm.trans HRV.out), s20.below hw_w0 (by omega)⟩
end Go.Proofs.Ytdhaedjmlddjcaa
