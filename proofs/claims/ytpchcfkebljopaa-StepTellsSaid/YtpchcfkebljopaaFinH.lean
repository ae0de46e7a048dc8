import Derived.Test.YtpchcfkebljopaaXj
set_option linter.unusedSimpArgs false
set_option linter.unusedVariables false
set_option linter.constructorNameAsVariable false
set_option linter.defProp false
section
namespace Go.Proofs.Ytpchcfkebljopaa
open Go.Cl Go Go.ChangeShapes Go.WideShapes Go.ChangeAt Go.RowKit
theorem stepTells_facts : joinedFacts Try.prog 19 Try.f19 Rows.stepTellsSpec Rows.stepTellsRow = true := by
  unfold joinedFacts
  simp only [Bool.and_eq_true]
  with_reducible repeat' apply zA
  all_goals first | with_reducible exact fact_enter | with_reducible exact X1k | with_reducible exact fact_make | exact (by rw [show Rows.stepTellsRow.lifted = Rows.ruleTotalRow.lifted from rfl]; exact X1k) | exact (by rw [show Rows.stepTellsRow.make = Rows.ruleTotalRow.make from rfl]; exact fact_make) | kernel_rfl
set_option maxRecDepth 100000 in
theorem stepTells_lifted (os : Os) (started : os.Started) (H : Type) (enc : TypeId × Value → H) :
    ReturnsInHanded {} Try.checked os 19 .any (Rows.stepTellsSpec.pre6 enc Try.prog Try.f19 Rows.stepTellsRow.domain false) (Rows.stepTellsSpec.post enc Try.prog Try.f19 false true false false) := by
  refine returnsInHanded_of_change (C := Try.checked) Try.own started (by kernel_rfl) Try.func19
    (ChangeSpec.witness6 (enc := enc) (C := Try.checked) false ⟨#[], #[.agg #[.int .i64 0, .int .i64 0, .int .i64 0, .int .i64 0, .int .i64 0, .int .i64 0, .int .i64 0, .slice none 0 0], .slice none 0 0], []⟩ 8 (by kernel_rfl) (by kernel_rfl) (by kernel_rfl) (by kernel_rfl)) ?_
  intro W base args ds gs before hval0 hW hcnd _
  have hval : ∀ (j : Nat) t v, Try.f19.params[j]? = some t → args[j]? = some v → Value.okWide Try.prog W .any base t v := hval0
  have hW' := hW
  obtain ⟨p, q, hA0, hV, rfl, hfz, hnd⟩ := hW
  have hA : DataW.TrodAll enc Try.prog W 0 (fun _ => true) true Try.f19.params.toList args.toList ds p := hA0
  rw [Try.params19] at hA hval
  obtain ⟨v0, vs0, d0, ds0, p0, q0, ha0, rfl, rfl, h0, hA⟩ := trodAll_cons hA
  obtain ⟨v1, vs1, d1, ds1, p1, q1, rfl, rfl, rfl, h1, hA⟩ := trodAll_cons hA
  obtain ⟨rfl, rfl, rfl⟩ := trodAll_nil hA
  obtain rfl : args = #[v0, v1] := by cases args; simp_all
  obtain ⟨rfl, rfl⟩ := trodVars_none hV
  obtain ⟨c0, k0, t0⟩ := arg_any (n := 4) (by kernel_rfl) (hval 0 57 v0 rfl rfl) h0
  obtain ⟨c1, k1, t1⟩ := arg_any (n := 4) (by kernel_rfl) (hval 1 58 v1 rfl rfl) h1
  clear hA0 hval0
  obtain ⟨x, rfl, _⟩ := a57 (n := 0) t0
  obtain ⟨l, rfl, _⟩ := a58 (n := 1) t1
  have hc := con_true (w := W) (vals := [v0, v1]) c19 ⟨x, l, rfl, rfl⟩ (V0g.2 ⟨k0, V0g.2 ⟨k1, VRs_nil _⟩⟩)
  refine Calls.mono hc fun e W' ⟨he, hw⟩ => ?_
  subst he
  exact ⟨_, rfl, post_true (bt := 4) Try.laidOut hW' rfl hw (fun t ht => by
    have e : t = 57 ∨ t = 58 := by simp [Try.params19] at ht; exact ht
    rcases e with rfl | rfl <;> exact ⟨by kernel_rfl, of_decide_eq_true (by kernel_rfl)⟩) (by kernel_rfl) Try.underlying4 rfl⟩
theorem stepTells_holds : Rows.StepTellsSaid :=
  OpenClaim.holds_of_wide 19 Try.f19 rfl rfl rfl rfl rfl rfl rfl ⟨rfl, rfl, rfl, rfl, rfl⟩ rfl rfl rfl rfl rfl (by kernel_rfl) Try.func19 stepTells_facts
    (of_decide_eq_true (by kernel_rfl)) (by unfold Func.isWrapper; first | (rw [if_pos (by decide +kernel)]; kernel_rfl) | (rw [if_neg (by decide +kernel)]; exact ⟨rfl, rfl⟩))
    (fun os started H enc _ => stepTells_lifted os started H enc)
end Go.Proofs.Ytpchcfkebljopaa
end
