/- The closed law ClientKnown returns true: the interpreter over clean values runs it to its end, in parts, and is sound. No condition. -/
import Derived.Test.YtcjkapadadonlaaGreatKClient6
import Derived.Test.YtcjkapadadonlaaGreatRows
import Derived.ProofKit
set_option linter.unusedSimpArgs false
set_option linter.unusedVariables false
namespace Go.Proofs.YtcjkapadadonlaaGreat
open Go.Cl Go Go.ChangeShapes Go.WideShapes Go.ChangeAt Go.RowKit

noncomputable def known : XCall := memo 35 a1 54 p1 (resOf true v1 6108 q1) (memo 15 a2 8629 p2 (resOf true v2 11550 q2) (memo 143 a3 11799 p3 (resOf true v3 16720 q3) (memo 39 a4 18221 p4 (resOf true v4 18938 q4) (memo 39 a5 18938 p5 (resOf true v5 19655 q5) (memo 39 a6 19655 p6 (resOf true v6 20372 q6) (memo 39 a7 20372 p7 (resOf true v7 21089 q7) (memo 39 a8 21089 p8 (resOf true v8 21806 q8) (memo 39 a9 21806 p9 (resOf true v9 22523 q9) (memo 39 a10 22523 p10 (resOf true v10 23240 q10) (memo 39 a11 23240 p11 (resOf true v11 23957 q11) (memo 39 a12 23957 p12 (resOf true v12 24674 q12) (memo 39 a13 24674 p13 (resOf true v13 25391 q13) (memo 39 a14 25391 p14 (resOf true v14 26108 q14) (memo 39 a15 26108 p15 (resOf true v15 26825 q15) (memo 39 a16 26825 p16 (resOf true v16 27542 q16) (memo 39 a17 27542 p17 (resOf true v17 28259 q17) (memo 36 a21 28281 p21 (resOf true v21 40762 q21) (memo 15 a26 40762 p26 (resOf true v26 55887 q26) (memo 38 a28 55891 p28 (resOf true v28 56291 q28) (memo 37 a31 56291 p31 (resOf true v31 65047 q31) (memo 38 a32 65049 p32 (resOf true v32 65327 q32) (memo 143 a34 65347 p34 (resOf true v34 71259 q34) (memo 38 a36 71305 p36 (resOf true v36 71686 q36) (memo 37 a50 71686 p50 (resOf true v50 89847 q50) (memo 38 a51 89903 p51 (resOf true v51 90130 q51) (memo 143 a52 90150 p52 (resOf true v52 95071 q52) (noCall)))))))))))))))))))))))))))
theorem known_ok : CallOk C known := memo_ok C k1 (memo_ok C k2 (memo_ok C k3 (memo_ok C k4 (memo_ok C k5 (memo_ok C k6 (memo_ok C k7 (memo_ok C k8 (memo_ok C k9 (memo_ok C k10 (memo_ok C k11 (memo_ok C k12 (memo_ok C k13 (memo_ok C k14 (memo_ok C k15 (memo_ok C k16 (memo_ok C k17 (memo_ok C k21 (memo_ok C k26 (memo_ok C k28 (memo_ok C k31 (memo_ok C k32 (memo_ok C k34 (memo_ok C k36 (memo_ok C k50 (memo_ok C k51 (memo_ok C k52 (noCall_ok C)))))))))))))))))))))))))))
set_option maxRecDepth 1000000 in
theorem runs : isTrue (trun C xp known 100000 5 [] ⟨0, .e⟩) = true := by kernel_rfl

set_option maxRecDepth 100000 in
theorem clientKnown_lifted (os : Os) (started : os.Started) (H : Type) (enc : TypeId × Value → H) :
    ReturnsInHanded {} Tryz.checked os 5 .any (Rows.clientKnownSpec.pre6 enc Tryz.prog Tryz.f5 Rows.clientKnownRow.domain false) (Rows.clientKnownSpec.post enc Tryz.prog Tryz.f5 false true false false) := by
  refine returnsInHanded_of_change (C := Tryz.checked) Tryz.own started (by kernel_rfl) Tryz.func5
    (ChangeSpec.witness6 (enc := enc) (C := Tryz.checked) false ⟨#[], #[], []⟩ 8 (by kernel_rfl) (by kernel_rfl) (by kernel_rfl) (by kernel_rfl)) ?_
  intro W base args ds gs before hval0 hW hcnd _
  have hW' := hW
  obtain ⟨p, q, hA0, hV, rfl, hfz, hnd⟩ := hW
  have hA : DataW.TrodAll enc Tryz.prog W 0 (fun _ => true) true Tryz.f5.params.toList args.toList ds p := hA0
  rw [Tryz.params5] at hA
  have hargs : args = #[] ∧ ds = [] := by
    cases hl : args.toList with
    | nil =>
      rw [hl] at hA
      cases ds with
      | nil => exact ⟨by apply Array.ext'; simpa using hl, rfl⟩
      | cons d ds => exact hA.elim
    | cons v l => rw [hl] at hA; exact hA.elim
  obtain ⟨rfl, rfl⟩ := hargs
  obtain ⟨rfl, rfl⟩ := trodVars_none hV
  refine Calls.mono (closed_table C xp_ok xp_name known_ok runs W) fun e W' ⟨he, hw⟩ => ?_
  subst he
  exact ⟨_, rfl, post_true (bt := _) Tryz.laidOut hW' rfl hw (fun t ht => by simp [Tryz.params5] at ht) (by kernel_rfl) Tryz.underlying4 rfl⟩

theorem clientKnown_holds : Rows.ClientKnownSaid :=
  OpenClaim.holds_of_wide 5 Tryz.f5 rfl rfl rfl rfl rfl rfl rfl ⟨rfl, rfl, rfl, rfl, rfl⟩ rfl rfl rfl rfl rfl (by kernel_rfl) Tryz.func5 (by kernel_rfl)
    (of_decide_eq_true (by kernel_rfl)) (by unfold Func.isWrapper; first | (rw [if_pos (by decide +kernel)]; kernel_rfl) | (rw [if_neg (by decide +kernel)]; exact ⟨rfl, rfl⟩))
    (fun os started H enc _ => clientKnown_lifted os started H enc)
end Go.Proofs.YtcjkapadadonlaaGreat
