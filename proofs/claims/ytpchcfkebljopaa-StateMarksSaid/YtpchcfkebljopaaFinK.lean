import Derived.Test.YtpchcfkebljopaaXk
set_option linter.unusedSimpArgs false
set_option linter.unusedVariables false
set_option linter.constructorNameAsVariable false
set_option linter.defProp false
set_option maxHeartbeats 8000000
section
namespace Go.Proofs.Ytpchcfkebljopaa
open Go.Cl Go Go.ChangeShapes Go.WideShapes Go.ChangeAt Go.RowKit
theorem stateMarks_facts : joinedFacts Try.prog 10 Try.f10 Rows.stateMarksSpec Rows.stateMarksRow = true := by
 unfold joinedFacts
 simp only [Bool.and_eq_true]
 with_reducible repeat' apply zA
 all_goals first | with_reducible exact Q1a | with_reducible exact K0t | with_reducible exact K0w | exact (by rw [show Rows.stateMarksRow.lifted = Rows.ruleTotalRow.lifted from rfl]; exact K0t) | exact (by rw [show Rows.stateMarksRow.make = Rows.ruleTotalRow.make from rfl]; exact K0w) | kernel_rfl
set_option maxRecDepth 100000 in
theorem stateMarks_lifted (os : Os) (started : os.Started) (H : Type) (enc : TypeId × Value -> H) :
  ReturnsInHanded {} Try.checked os 10 .any (Rows.stateMarksSpec.pre6 enc Try.prog Try.f10 Rows.stateMarksRow.domain false) (Rows.stateMarksSpec.post enc Try.prog Try.f10 false true false false) := by
 refine returnsInHanded_of_change (C := Try.checked) Try.own started (by kernel_rfl) Try.func10
  (ChangeSpec.witness6 (enc := enc) (C := Try.checked) false ⟨#[], #[.agg #[.int .i64 0, .int .i64 0, .int .i64 0, .int .i64 0, .int .i64 0, .int .i64 0, .int .i64 0, .slice none 0 0], .slice none 0 0, .int .i64 0, .int .i64 0], []⟩ 8 (by kernel_rfl) (by kernel_rfl) (by kernel_rfl) (by kernel_rfl)) ?_
 intro W base args ds gs before hval0 hW hcnd _
 have hval : ∀ (j : Nat) t v, Try.f10.params[j]? = some t -> args[j]? = some v -> Value.okWide Try.prog W .any base t v := hval0
 have hW' := hW
 obtain ⟨p, q, hA0, hV, rfl, hfz, hnd⟩ := hW
 have hA : DataW.TrodAll enc Try.prog W 0 (fun _ => true) true Try.f10.params.toList args.toList ds p := hA0
 rw [Try.params10] at hA hval
 obtain ⟨v0, vs0, d0, ds0, p0, q0, ha0, rfl, rfl, h0, hA⟩ := trodAll_cons hA
 obtain ⟨v1, vs1, d1, ds1, p1, q1, rfl, rfl, rfl, h1, hA⟩ := trodAll_cons hA
 obtain ⟨v2, vs2, d2, ds2, p2, q2, rfl, rfl, rfl, h2, hA⟩ := trodAll_cons hA
 obtain ⟨v3, vs3, d3, ds3, p3, q3, rfl, rfl, rfl, h3, hA⟩ := trodAll_cons hA
 obtain ⟨rfl, rfl, rfl⟩ := trodAll_nil hA
 obtain rfl : args = #[v0, v1, v2, v3] := by cases args; simp_all
 obtain ⟨rfl, rfl⟩ := trodVars_none hV
 obtain ⟨c0, k0, t0⟩ := K0v (n := 4) (by kernel_rfl) (hval 0 57 v0 rfl rfl) h0
 obtain ⟨c1, k1, t1⟩ := K0v (n := 4) (by kernel_rfl) (hval 1 58 v1 rfl rfl) h1
 obtain ⟨c2, k2, t2⟩ := K0v (n := 4) (by kernel_rfl) (hval 2 3 v2 rfl rfl) h2
 obtain ⟨c3, k3, t3⟩ := K0v (n := 4) (by kernel_rfl) (hval 3 3 v3 rfl rfl) h3
 clear hA0 hval0
 obtain ⟨x, rfl, _⟩ := a57 (n := 0) t0
 obtain ⟨l, rfl, _⟩ := a58 (n := 1) t1
 obtain ⟨n, rfl, _⟩ := a3 (n := 3) t2
 obtain ⟨m, rfl, _⟩ := a3 (n := 3) t3
 have hc := X18 (w := W) (vals := [v0, v1, v2, v3]) c10 ⟨x, l, n, m, rfl, rfl⟩ (V0f.2 ⟨k0, V0f.2 ⟨k1, V0f.2 ⟨k2, V0f.2 ⟨k3, VRs_nil _⟩⟩⟩⟩)
 refine Calls.mono hc fun e W' ⟨he, hw⟩ => ?_
 subst he
 exact ⟨_, rfl, Y1m (bt := 4) Try.laidOut hW' rfl hw (fun t ht => by
  have e : t = 57 \/ t = 58 \/ t = 3 := by simp [Try.params10] at ht; exact ht
  rcases e with rfl | rfl | rfl <;> exact ⟨by kernel_rfl, of_decide_eq_true (by kernel_rfl)⟩) (by kernel_rfl) Try.underlying4 rfl⟩
theorem stateMarks_holds : Rows.StateMarksSaid :=
 OpenClaim.holds_of_wide 10 Try.f10 rfl rfl rfl rfl rfl rfl rfl ⟨rfl, rfl, rfl, rfl, rfl⟩ rfl rfl rfl rfl rfl (by kernel_rfl) Try.func10 stateMarks_facts
  (of_decide_eq_true (by kernel_rfl)) (by unfold Func.isWrapper; first | (rw [if_pos (by decide +kernel)]; kernel_rfl) | (rw [if_neg (by decide +kernel)]; exact ⟨rfl, rfl⟩))
  (fun os started H enc _ => stateMarks_lifted os started H enc)
end Go.Proofs.Ytpchcfkebljopaa
end
