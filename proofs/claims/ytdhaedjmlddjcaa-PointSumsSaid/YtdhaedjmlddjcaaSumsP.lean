/- PointSums: whatever the input, it returns true, and the input reads as it did. No conditions. -/
import Derived.Test.YtdhaedjmlddjcaaRow5
import Derived.Test.YtdhaedjmlddjcaaSums
namespace Go.Proofs.Ytdhaedjmlddjcaa
open Go.ChangeShapes Go.WideShapes Go.ChangeAt Go.RowKit Go.ChangeMaps Go.Num
set_option maxRecDepth 100000 in
theorem pointSums_lifted (os : Os) (started : os.Started) (H : Type) (enc : TypeId × Value → H) :
    ReturnsInHanded {} Try.checked os 4 .any (Rows.pointSumsSpec.pre6 enc Try.prog Try.f4 Rows.pointSumsRow.domain false) (Rows.pointSumsSpec.post enc Try.prog Try.f4 false true false false) := by
  refine returnsInHanded_of_change (C := Try.checked) own started (by kernel_rfl) Try.func4
    (ChangeSpec.witness6 (enc := enc) (C := Try.checked) false ⟨#[], #[.int .u64 0, .int .u64 0, .int .u8 0, .int .u8 0, .agg #[.int .u64 0, .int .u64 0, .int .u64 0, .int .u64 0]], []⟩ 8 (by kernel_rfl) (by kernel_rfl) (by kernel_rfl) (by kernel_rfl)) ?_
  intro W base args ds gs before hval0 hW hcnd _
  have hval : ∀ (j : Nat) t v, Try.f4.params[j]? = some t → args[j]? = some v → Value.okWide Try.prog W .any base t v := hval0
  have hW' := hW
  obtain ⟨p, q, hA0, hV, rfl, hfz, hnd⟩ := hW
  have hA : DataW.TrodAll enc Try.prog W 0 (fun _ => true) true Try.f4.params.toList args.toList ds p := hA0
  rw [Try.params4] at hA hval
  obtain ⟨v0, v1, v2, v3, v4, d0, d1, d2, d3, d4, p0, p1, p2, p3, p4, rfl, rfl, rfl, h0, h1, h2, h3, h4⟩ := trodAll_five hA
  obtain ⟨rfl, rfl⟩ := trodVars_none hV
  obtain ⟨x0, rfl, rfl, rfl, w0⟩ := open_int Try.underlying22 (hval 0 22 v0 rfl rfl) h0
  obtain ⟨x1, rfl, rfl, rfl, w1⟩ := open_int Try.underlying22 (hval 1 22 v1 rfl rfl) h1
  obtain ⟨x2, rfl, rfl, rfl, w2⟩ := open_int Try.underlying5 (hval 2 5 v2 rfl rfl) h2
  obtain ⟨x3, rfl, rfl, rfl, w3⟩ := open_int Try.underlying5 (hval 3 5 v3 rfl rfl) h3
  obtain ⟨cs, rfl, hsz, _⟩ : ∃ cs, v4 = .agg cs ∧ cs.size = Try.prog.cellsOf 26 ∧ Row.okWide Try.prog W .any base 26 cs := by
    have := hval 4 26 v4 rfl rfl
    simpa [Value.okWide, Try.underlying26] using this
  rw [cells_num] at hsz
  obtain ⟨l⟩ := cs
  obtain ⟨c0, c1, c2, c3, rfl⟩ := list_4 l hsz
  obtain ⟨fuel, hf⟩ := h4
  obtain ⟨y0, y1, y2, y3, m, hx, hy0, hy1, hy2, hy3⟩ := trod_array4 Try.underlying26 cells_word hf
  obtain ⟨z0, e0, rfl, u0⟩ := DataW.trod_int Try.underlying22 hy0
  obtain ⟨z1, e1, rfl, u1⟩ := DataW.trod_int Try.underlying22 hy1
  obtain ⟨z2, e2, rfl, u2⟩ := DataW.trod_int Try.underlying22 hy2
  obtain ⟨z3, e3, rfl, u3⟩ := DataW.trod_int Try.underlying22 hy3
  simp at e0 e1 e2 e3
  subst e0 e1 e2 e3
  simp only [Prod.mk.injEq] at hx
  obtain ⟨rfl, rfl⟩ := hx
  clear hA0 hval0
  simp only [List.append_nil] at hW'
  obtain ⟨n0, b0, rfl⟩ := word_wf w0
  obtain ⟨n1, b1, rfl⟩ := word_wf w1
  obtain ⟨n2, b2, rfl⟩ := byte_wf w2
  obtain ⟨n3, b3, rfl⟩ := byte_wf w3
  have rdA : ∀ (W' : World) (sp : Nat → Bool), DataW.Trod enc Try.prog W' 0 sp true 26 (.agg #[.int .u64 z0, .int .u64 z1, .int .u64 z2, .int .u64 z3]) (DataW.agg [.lit (.int .u64 z0), .lit (.int .u64 z1), .lit (.int .u64 z2), .lit (.int .u64 z3)]) [] := fun W' sp => ⟨2, by simp [DataW.trod, Value.cells, Try.underlying26, Try.underlying22, cells_num, cells_word, u0, u1, u2, u3, show List.range 4 = [0, 1, 2, 3] from rfl]⟩
  obtain ⟨k0, g0, rfl⟩ := word_wf u0
  obtain ⟨k1, g1, rfl⟩ := word_wf u1
  obtain ⟨k2, g2, rfl⟩ := word_wf u2
  obtain ⟨k3, g3, rfl⟩ := word_wf u3
  obtain ⟨k, hk, hkn⟩ := words_num g0 g1 g2 g3
  have hcall := sums_any n0 n1 n2 n3 k W b0 b1 b2 b3 hk
  rw [hkn] at hcall
  refine hcall.mono fun e W' ⟨he, hg⟩ => ?_
  subst he
  exact ⟨_, rfl, _, _, _, [], [], [], hW', trodAll_mk1 (shut_bool Try.underlying4 _), trodAll_mk5 (shut_int Try.underlying22 w0) (shut_int Try.underlying22 w1) (shut_int Try.underlying5 w2) (shut_int Try.underlying5 w3) (rdA _ _), rfl, hg.frame _, fun h => by cases h⟩

theorem pointSums_holds : Rows.PointSumsSaid :=
  OpenClaim.holds_of_wide 4 Try.f4 rfl rfl rfl rfl rfl rfl rfl ⟨rfl, rfl, rfl, rfl, rfl⟩ rfl rfl rfl rfl rfl (by kernel_rfl) Try.func4 (by kernel_rfl)
    (of_decide_eq_true (by kernel_rfl)) (by unfold Func.isWrapper; rw [if_neg (by decide +kernel)]; exact ⟨rfl, rfl⟩)
    (fun os started H enc _ => pointSums_lifted os started H enc)
#print axioms pointSums_holds
end Go.Proofs.Ytdhaedjmlddjcaa
