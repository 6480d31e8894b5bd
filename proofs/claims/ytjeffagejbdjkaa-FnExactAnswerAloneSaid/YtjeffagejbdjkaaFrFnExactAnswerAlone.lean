/- The given statement of FnExactAnswerAlone, out of the walk of the law. -/
import Derived.Test.YtjeffagejbdjkaaAnsL
import Derived.Test.YtjeffagejbdjkaaRd
namespace Go.Proofs.Ytjeffagejbdjkaa.fnExactAnswerAlone
open Go.ChangeShapes Go.WideShapes Go.ChangeAt Go.RowKit
set_option linter.unusedVariables false

theorem own : ownKnob Try.prog.godebug = none := by kernel_rfl
theorem laidOut : laidOutB Try.prog = true := by kernel_rfl
set_option maxRecDepth 100000 in
theorem lifted (os : Os) (started : os.Started) (H : Type) (enc : TypeId × Value → H) :
    ReturnsInHanded {} Try.checked os 4 .any (Rows.fnExactAnswerAloneSpec.pre6 enc Try.prog Try.f4 Rows.fnExactAnswerAloneRow.domain false) (Rows.fnExactAnswerAloneSpec.post enc Try.prog Try.f4 false true false false) := by
  refine returnsInHanded_of_change (C := Try.checked) own started (by kernel_rfl) Try.func4
    (ChangeSpec.witness6 (enc := enc) (C := Try.checked) false ⟨#[], #[.agg #[.int .i64 0, .int .i64 0, .slice none 0 0, .slice none 0 0], .slice none 0 0], []⟩ 8 (by kernel_rfl) (by kernel_rfl) (by kernel_rfl) (by kernel_rfl)) ?_
  intro W base args ds gs before hval0 hW hcnd _
  have hval : ∀ (j : Nat) t v, Try.f4.params[j]? = some t → args[j]? = some v → Value.okWide Try.prog W .any base t v := hval0
  have hW' := hW
  obtain ⟨p, q, hA0, hV, rfl, hfz, hnd⟩ := hW
  have hA : DataW.TrodAll enc Try.prog W 0 (fun _ => true) true Try.f4.params.toList args.toList ds p := hA0
  rw [Try.params4] at hA hval
  obtain ⟨v0, vs0, d0, ds0, p0, q0, hargs, rfl, rfl, h0, r0⟩ := trodAll_cons hA
  obtain ⟨v1, vs1, d1, ds1, p1, q1, rfl, rfl, rfl, h1, r1⟩ := trodAll_cons r0
  obtain ⟨rfl, rfl, rfl⟩ := trodAll_nil r1
  obtain rfl : args = #[v0, v1] := by cases args; simp_all
  obtain ⟨rfl, rfl⟩ := trodVars_none hV
  have lt0 : ∀ x ∈ p0, x.block < W.heap.size := by obtain ⟨m, hm⟩ := h0; exact DataW.trod_lt m _ _ _ hm
  obtain ⟨x0, cs0, rfl, u0_conds, u0_out, rfl, i0_id, i0_tenant, h0_conds, h0_out⟩ := arg_st (R := RQuery) Try.underlying33 (rd_query Try.underlying33 (by kernel_rfl) (by kernel_rfl) (rd_int Try.underlying3) (rd_int Try.underlying3) (rd_sl (sz := 3) (R := RCond) (by decide) Try.underlying30 (by kernel_rfl) (rd_cond Try.underlying69 (by kernel_rfl) (by kernel_rfl) (rd_int Try.underlying3) (rd_int Try.underlying3) (rd_int Try.underlying3))) (rd_sl (sz := 1) (R := RInt) (by decide) Try.underlying31 (by kernel_rfl) (rd_int Try.underlying3))) (hval 0 33 v0 rfl rfl) h0
  have lt1 : ∀ x ∈ p1, x.block < W.heap.size := by obtain ⟨m, hm⟩ := h1; exact DataW.trod_lt m _ _ _ hm
  obtain ⟨x1, w1⟩ := arg_sl (R := RRow) Try.underlying22 (rd_sl (sz := 2) (R := RRow) (by decide) Try.underlying22 (by kernel_rfl) (rd_row Try.underlying45 (by kernel_rfl) (by kernel_rfl) (rd_int Try.underlying3) (rd_sl (sz := 1) (R := RInt) (by decide) Try.underlying31 (by kernel_rfl) (rd_int Try.underlying3)))) (hval 1 22 v1 rfl rfl) h1
  clear hA0 hval0
  refine (law_FnExactAnswerAlone W x0 u0_conds u0_out i0_id i0_tenant h0_conds h0_out v1 x1 w1).mono fun e W' ⟨he, bel⟩ => ?_
  subst he
  exact ⟨_, rfl, _, _, _, [], _, [], hW', trodAll_mk1 (shut_bool Try.underlying4 _), (trodAll_cons_mk (Below.trod laidOut (by kernel_rfl) (of_decide_eq_true (by kernel_rfl)) h0 bel lt0) (trodAll_cons_mk (Below.trod laidOut (by kernel_rfl) (of_decide_eq_true (by kernel_rfl)) h1 bel lt1) trodAll_mk0)), rfl, bel.frame _, fun h => by cases h⟩
theorem over : Rows.fnExactAnswerAloneRow.holds Try.pinned (OpenSpec.ofChange Rows.fnExactAnswerAloneSpec) :=
  OpenClaim.holds_of_wide 4 Try.f4 rfl rfl rfl rfl rfl rfl rfl ⟨rfl, rfl, rfl, rfl, rfl⟩ rfl rfl rfl rfl rfl (by kernel_rfl) Try.func4 (by kernel_rfl)
    (of_decide_eq_true (by kernel_rfl)) (by unfold Func.isWrapper; first | (rw [if_pos (by decide +kernel)]; kernel_rfl) | (rw [if_neg (by decide +kernel)]; exact ⟨rfl, rfl⟩))
    (fun os started H enc _ => lifted os started H enc)
/-- FnExactAnswerAlone: for every input the law returns true. -/
theorem proved : Rows.FnExactAnswerAloneSaid := over
end Go.Proofs.Ytjeffagejbdjkaa.fnExactAnswerAlone
