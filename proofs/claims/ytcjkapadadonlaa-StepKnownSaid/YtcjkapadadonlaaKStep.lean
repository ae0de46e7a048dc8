/- The closed law StepKnown returns true: the interpreter over clean values runs it to its end, in parts, and is sound. No condition. -/
import Derived.Test.YtcjkapadadonlaaKStep6
import Derived.Test.YtcjkapadadonlaaRows
import Derived.ProofKit
set_option linter.unusedSimpArgs false
set_option linter.unusedVariables false
namespace Go.Proofs.Ytcjkapadadonlaa
open Go.Cl Go Go.ChangeShapes Go.WideShapes Go.ChangeAt Go.RowKit

noncomputable def known : XCall := memo 22 a0 28 p0 (resOf true v0 1039 q0) (memo 22 a1 1047 p1 (resOf true v1 1869 q1) (memo 22 a2 1877 p2 (resOf true v2 2699 q2) (memo 22 a3 2707 p3 (resOf true v3 3529 q3) (memo 22 a4 3537 p4 (resOf true v4 4359 q4) (memo 22 a5 4367 p5 (resOf true v5 5189 q5) (memo 22 a6 5197 p6 (resOf true v6 6019 q6) (memo 22 a7 6027 p7 (resOf true v7 6849 q7) (memo 22 a8 6857 p8 (resOf true v8 7679 q8) (memo 22 a9 7687 p9 (resOf true v9 8509 q9) (memo 22 a10 8517 p10 (resOf true v10 9339 q10) (memo 22 a11 9347 p11 (resOf true v11 10169 q11) (memo 22 a12 10177 p12 (resOf true v12 10999 q12) (memo 22 a13 11007 p13 (resOf true v13 11829 q13) (memo 22 a14 11837 p14 (resOf true v14 12659 q14) (memo 22 a15 12667 p15 (resOf true v15 13489 q15) (memo 22 a16 13497 p16 (resOf true v16 14319 q16) (memo 22 a17 14327 p17 (resOf true v17 15149 q17) (memo 22 a18 15157 p18 (resOf true v18 15979 q18) (memo 22 a19 15987 p19 (resOf true v19 16809 q19) (memo 22 a20 16817 p20 (resOf true v20 17639 q20) (memo 22 a21 17647 p21 (resOf true v21 18469 q21) (memo 22 a22 18477 p22 (resOf true v22 19299 q22) (memo 22 a23 19307 p23 (resOf true v23 20129 q23) (memo 22 a24 20137 p24 (resOf true v24 20959 q24) (memo 22 a25 20967 p25 (resOf true v25 21789 q25) (memo 22 a26 21797 p26 (resOf true v26 22619 q26) (memo 22 a27 22627 p27 (resOf true v27 23449 q27) (memo 22 a28 23457 p28 (resOf true v28 24279 q28) (memo 22 a29 24287 p29 (resOf true v29 25109 q29) (memo 22 a30 25117 p30 (resOf true v30 25939 q30) (memo 22 a31 25947 p31 (resOf true v31 26769 q31) (memo 22 a32 26777 p32 (resOf true v32 27628 q32) (memo 111 a33 28472 p33 (resOf false v33 30309 q33) (memo 22 a34 30633 p34 (resOf true v34 31418 q34) (memo 22 a35 31418 p35 (resOf true v35 32429 q35) (memo 22 a36 33095 p36 (resOf true v36 33173 q36) (memo 27 a37 33188 p37 (resOf true v37 33263 q37) (noCall))))))))))))))))))))))))))))))))))))))
theorem known_ok : CallOk C known := memo_ok C k0 (memo_ok C k1 (memo_ok C k2 (memo_ok C k3 (memo_ok C k4 (memo_ok C k5 (memo_ok C k6 (memo_ok C k7 (memo_ok C k8 (memo_ok C k9 (memo_ok C k10 (memo_ok C k11 (memo_ok C k12 (memo_ok C k13 (memo_ok C k14 (memo_ok C k15 (memo_ok C k16 (memo_ok C k17 (memo_ok C k18 (memo_ok C k19 (memo_ok C k20 (memo_ok C k21 (memo_ok C k22 (memo_ok C k23 (memo_ok C k24 (memo_ok C k25 (memo_ok C k26 (memo_ok C k27 (memo_ok C k28 (memo_ok C k29 (memo_ok C k30 (memo_ok C k31 (memo_ok C k32 (memo_ok C k33 (memo_ok C k34 (memo_ok C k35 (memo_ok C k36 (memo_ok C k37 (noCall_ok C))))))))))))))))))))))))))))))))))))))
set_option maxRecDepth 1000000 in
theorem runs : isTrue (trun C xp known 100000 5 [] ⟨0, .e⟩) = true := by kernel_rfl

set_option maxRecDepth 100000 in
theorem stepKnown_lifted (os : Os) (started : os.Started) (H : Type) (enc : TypeId × Value → H) :
    ReturnsInHanded {} Try.checked os 5 .any (Rows.stepKnownSpec.pre6 enc Try.prog Try.f5 Rows.stepKnownRow.domain false) (Rows.stepKnownSpec.post enc Try.prog Try.f5 false true false false) := by
  refine returnsInHanded_of_change (C := Try.checked) Try.own started (by kernel_rfl) Try.func5
    (ChangeSpec.witness6 (enc := enc) (C := Try.checked) false ⟨#[], #[], []⟩ 8 (by kernel_rfl) (by kernel_rfl) (by kernel_rfl) (by kernel_rfl)) ?_
  intro W base args ds gs before hval0 hW hcnd _
  have hW' := hW
  obtain ⟨p, q, hA0, hV, rfl, hfz, hnd⟩ := hW
  have hA : DataW.TrodAll enc Try.prog W 0 (fun _ => true) true Try.f5.params.toList args.toList ds p := hA0
  rw [Try.params5] at hA
  have hargs : args = #[] ∧ ds = [] := by
    cases hl : args.toList with
    | nil =>
      rw [hl] at hA
      cases ds with
      | nil => exact ⟨by apply Array.ext'; simpa using hl, rfl⟩
      | cons d ds => exact hA.elim
    | cons v l => rw [hl] at hA; exact hA.elim
  obtain ⟨rfl, rfl⟩ := hargs
  obtain ⟨rfl, rfl⟩ := trodVars_none hV
  refine Calls.mono (closed_table C xp_ok xp_name known_ok runs W) fun e W' ⟨he, hw⟩ => ?_
  subst he
  exact ⟨_, rfl, post_true (bt := _) Try.laidOut hW' rfl hw (fun t ht => by simp [Try.params5] at ht) (by kernel_rfl) Try.underlying4 rfl⟩

theorem stepKnown_holds : Rows.StepKnownSaid :=
  OpenClaim.holds_of_wide 5 Try.f5 rfl rfl rfl rfl rfl rfl rfl ⟨rfl, rfl, rfl, rfl, rfl⟩ rfl rfl rfl rfl rfl (by kernel_rfl) Try.func5 (by kernel_rfl)
    (of_decide_eq_true (by kernel_rfl)) (by unfold Func.isWrapper; first | (rw [if_pos (by decide +kernel)]; kernel_rfl) | (rw [if_neg (by decide +kernel)]; exact ⟨rfl, rfl⟩))
    (fun os started H enc _ => stepKnown_lifted os started H enc)
end Go.Proofs.Ytcjkapadadonlaa
