/- PointAll: whatever the input, it returns true, and the input reads as it did. No conditions. -/
import Derived.Test.YtdhaedjmlddjcaaRow5
import Derived.Test.YtdhaedjmlddjcaaAll
namespace Go.Proofs.Ytdhaedjmlddjcaa
open Go.ChangeShapes Go.WideShapes Go.ChangeAt Go.RowKit Go.ChangeMaps Go.Num

set_option maxRecDepth 100000 in
theorem pointAll_lifted (os : Os) (started : os.Started) (H : Type) (enc : TypeId × Value → H) :
    ReturnsInHanded {} Try.checked os 7 .any (Rows.pointAllSpec.pre6 enc Try.prog Try.f7 Rows.pointAllRow.domain false) (Rows.pointAllSpec.post enc Try.prog Try.f7 false true false false) := by
  refine returnsInHanded_of_change (C := Try.checked) own started (by kernel_rfl) Try.func7
    (ChangeSpec.witness6 (enc := enc) (C := Try.checked) false ⟨#[], #[.agg #[.int .u64 0, .int .u64 0, .int .u64 0, .int .u64 0, .int .u64 0, .int .u64 0, .int .u64 0, .int .u64 0], .string ⟨#[]⟩], []⟩ 8 (by kernel_rfl) (by kernel_rfl) (by kernel_rfl) (by kernel_rfl)) ?_
  intro W base args ds gs before hval0 hW hcnd _
  have hval : ∀ (j : Nat) t v, Try.f7.params[j]? = some t → args[j]? = some v → Value.okWide Try.prog W .any base t v := hval0
  have hW' := hW
  obtain ⟨p, q, hA0, hV, rfl, hfz, hnd⟩ := hW
  have hA : DataW.TrodAll enc Try.prog W 0 (fun _ => true) true Try.f7.params.toList args.toList ds p := hA0
  rw [Try.params7] at hA hval
  obtain ⟨v0, v1, d0, d1, p0, p1, rfl, rfl, rfl, h0, h1⟩ := trodAll_two hA
  obtain ⟨rfl, rfl⟩ := trodVars_none hV
  obtain ⟨cs, rfl, hsz⟩ := okWide_struct Try.underlying28 (hval 0 28 v0 rfl rfl)
  rw [cells_pt] at hsz
  obtain ⟨l⟩ := cs
  obtain ⟨c0, c1, c2, c3, c4, c5, c6, c7, rfl⟩ := list_8 l hsz
  obtain ⟨fuel, hf⟩ := h0
  obtain ⟨y0, y1, m, hx, _, hy0, hy1⟩ := trod_struct2 Try.underlying28 hf
  simp [Value.cells, cells_num] at hy0 hy1
  obtain ⟨xa, xb, xc, xd, mx, hxx, hx0, hx1, hx2, hx3⟩ := trod_array4 Try.underlying26 cells_word hy0
  obtain ⟨x0, ex0, rfl, ux0⟩ := DataW.trod_int Try.underlying22 hx0
  obtain ⟨x1, ex1, rfl, ux1⟩ := DataW.trod_int Try.underlying22 hx1
  obtain ⟨x2, ex2, rfl, ux2⟩ := DataW.trod_int Try.underlying22 hx2
  obtain ⟨x3, ex3, rfl, ux3⟩ := DataW.trod_int Try.underlying22 hx3
  simp at ex0 ex1 ex2 ex3
  subst ex0 ex1 ex2 ex3
  subst hxx
  obtain ⟨za, zb, zc, zd, mz, hzx, hz0, hz1, hz2, hz3⟩ := trod_array4 Try.underlying26 cells_word hy1
  obtain ⟨z0, ez0, rfl, uz0⟩ := DataW.trod_int Try.underlying22 hz0
  obtain ⟨z1, ez1, rfl, uz1⟩ := DataW.trod_int Try.underlying22 hz1
  obtain ⟨z2, ez2, rfl, uz2⟩ := DataW.trod_int Try.underlying22 hz2
  obtain ⟨z3, ez3, rfl, uz3⟩ := DataW.trod_int Try.underlying22 hz3
  simp at ez0 ez1 ez2 ez3
  subst ez0 ez1 ez2 ez3
  subst hzx
  simp only [Prod.mk.injEq, List.append_nil] at hx
  obtain ⟨rfl, rfl⟩ := hx
  obtain ⟨s, rfl, rfl, rfl, ws⟩ := open_string Try.underlying9 (hval 1 9 v1 rfl rfl) h1
  clear hA0 hval0
  simp only [List.append_nil] at hW'
  have rdP : ∀ (W' : World) (sp : Nat → Bool), DataW.Trod enc Try.prog W' 0 sp true 28 (.agg #[.int .u64 x0, .int .u64 x1, .int .u64 x2, .int .u64 x3, .int .u64 z0, .int .u64 z1, .int .u64 z2, .int .u64 z3]) (DataW.agg [.agg [.lit (.int .u64 x0), .lit (.int .u64 x1), .lit (.int .u64 x2), .lit (.int .u64 x3)], .agg [.lit (.int .u64 z0), .lit (.int .u64 z1), .lit (.int .u64 z2), .lit (.int .u64 z3)]]) [] := fun W' sp => ⟨3, by
    have f0 : DataW.trod enc Try.prog W' 0 sp true 2 26 [.int .u64 x0, .int .u64 x1, .int .u64 x2, .int .u64 x3] = some (.agg [.lit (.int .u64 x0), .lit (.int .u64 x1), .lit (.int .u64 x2), .lit (.int .u64 x3)], []) := by simp [DataW.trod, Try.underlying26, Try.underlying22, cells_num, cells_word, ux0, ux1, ux2, ux3, show List.range 4 = [0, 1, 2, 3] from rfl]
    have f1 : DataW.trod enc Try.prog W' 0 sp true 2 26 [.int .u64 z0, .int .u64 z1, .int .u64 z2, .int .u64 z3] = some (.agg [.lit (.int .u64 z0), .lit (.int .u64 z1), .lit (.int .u64 z2), .lit (.int .u64 z3)], []) := by simp [DataW.trod, Try.underlying26, Try.underlying22, cells_num, cells_word, uz0, uz1, uz2, uz3, show List.range 4 = [0, 1, 2, 3] from rfl]
    have := trod_struct2_mk (enc := enc) (w := W') (base := 0) (spare := sp) (held := true) (n := 2) (cs := [.int .u64 x0, .int .u64 x1, .int .u64 x2, .int .u64 x3, .int .u64 z0, .int .u64 z1, .int .u64 z2, .int .u64 z3]) Try.underlying28 (by simp [cells_pt]) (by simpa [cells_num] using f0) (by simpa [cells_num] using f1)
    simpa [Value.cells] using this⟩
  obtain ⟨k0, g0, rfl⟩ := word_wf ux0
  obtain ⟨k1, g1, rfl⟩ := word_wf ux1
  obtain ⟨k2, g2, rfl⟩ := word_wf ux2
  obtain ⟨k3, g3, rfl⟩ := word_wf ux3
  obtain ⟨j0, i0, rfl⟩ := word_wf uz0
  obtain ⟨j1, i1, rfl⟩ := word_wf uz1
  obtain ⟨j2, i2, rfl⟩ := word_wf uz2
  obtain ⟨j3, i3, rfl⟩ := word_wf uz3
  obtain ⟨kx, hkx, a0, a1, a2, a3⟩ := words_wd g0 g1 g2 g3
  obtain ⟨ky, hky, d0, d1, d2, d3⟩ := words_wd i0 i1 i2 i3
  have hcall := all_any kx ky s W hkx hky
  rw [show pt kx ky = .agg #[.int .u64 k0, .int .u64 k1, .int .u64 k2, .int .u64 k3, .int .u64 j0, .int .u64 j1, .int .u64 j2, .int .u64 j3] by unfold pt; rw [a0, a1, a2, a3, d0, d1, d2, d3]] at hcall
  refine hcall.mono fun e W' ⟨he, hg⟩ => ?_
  subst he
  exact ⟨_, rfl, _, _, _, [], [], [], hW', trodAll_mk1 (shut_bool Try.underlying4 _), trodAll_mk2 (rdP _ _) (shut_string Try.underlying9 ws), rfl, hg.frame _, fun h => by cases h⟩

theorem pointAll_holds : Rows.PointAllSaid :=
  OpenClaim.holds_of_wide 7 Try.f7 rfl rfl rfl rfl rfl rfl rfl ⟨rfl, rfl, rfl, rfl, rfl⟩ rfl rfl rfl rfl rfl (by kernel_rfl) Try.func7 (by kernel_rfl)
    (of_decide_eq_true (by kernel_rfl)) (by unfold Func.isWrapper; rw [if_neg (by decide +kernel)]; exact ⟨rfl, rfl⟩)
    (fun os started H enc _ => pointAll_lifted os started H enc)
#print axioms pointAll_holds
end Go.Proofs.Ytdhaedjmlddjcaa
