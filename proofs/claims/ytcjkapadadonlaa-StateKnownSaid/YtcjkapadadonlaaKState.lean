/- The closed law StateKnown returns true: the interpreter over clean values runs it to its end, in parts, and is sound. No condition. -/
import Derived.Test.YtcjkapadadonlaaKState4
import Derived.Test.YtcjkapadadonlaaRows
import Derived.ProofKit
set_option linter.unusedSimpArgs false
set_option linter.unusedVariables false
namespace Go.Proofs.Ytcjkapadadonlaa
open Go.Cl Go Go.ChangeShapes Go.WideShapes Go.ChangeAt Go.RowKit

noncomputable def known : XCall := memo 8 a1 11 p1 (resOf true v1 6824 q1) (memo 8 a3 6843 p3 (resOf true v3 13656 q3) (memo 36 a5 13669 p5 (resOf true v5 20134 q5) (memo 8 a7 20135 p7 (resOf true v7 26948 q7) (memo 73 a8 28865 p8 (resOf true v8 32219 q8) (memo 36 a10 33223 p10 (resOf true v10 39688 q10) (memo 8 a12 39689 p12 (resOf true v12 46502 q12) (memo 73 a13 48086 p13 (resOf true v13 51440 q13) (memo 8 a15 52396 p15 (resOf true v15 59209 q15) (memo 36 a17 59222 p17 (resOf true v17 65687 q17) (memo 8 a19 65688 p19 (resOf true v19 72501 q19) (memo 8 a21 72917 p21 (resOf true v21 79730 q21) (memo 8 a23 79732 p23 (resOf true v23 86545 q23) (memo 8 a25 86547 p25 (resOf true v25 93360 q25) (noCall))))))))))))))
theorem known_ok : CallOk C known := memo_ok C k1 (memo_ok C k3 (memo_ok C k5 (memo_ok C k7 (memo_ok C k8 (memo_ok C k10 (memo_ok C k12 (memo_ok C k13 (memo_ok C k15 (memo_ok C k17 (memo_ok C k19 (memo_ok C k21 (memo_ok C k23 (memo_ok C k25 (noCall_ok C))))))))))))))
set_option maxRecDepth 1000000 in
theorem runs : isTrue (trun C xp known 100000 3 [] ⟨0, .e⟩) = true := by kernel_rfl

set_option maxRecDepth 100000 in
theorem stateKnown_lifted (os : Os) (started : os.Started) (H : Type) (enc : TypeId × Value → H) :
    ReturnsInHanded {} Try.checked os 3 .any (Rows.stateKnownSpec.pre6 enc Try.prog Try.f3 Rows.stateKnownRow.domain false) (Rows.stateKnownSpec.post enc Try.prog Try.f3 false true false false) := by
  refine returnsInHanded_of_change (C := Try.checked) Try.own started (by kernel_rfl) Try.func3
    (ChangeSpec.witness6 (enc := enc) (C := Try.checked) false ⟨#[], #[], []⟩ 8 (by kernel_rfl) (by kernel_rfl) (by kernel_rfl) (by kernel_rfl)) ?_
  intro W base args ds gs before hval0 hW hcnd _
  have hW' := hW
  obtain ⟨p, q, hA0, hV, rfl, hfz, hnd⟩ := hW
  have hA : DataW.TrodAll enc Try.prog W 0 (fun _ => true) true Try.f3.params.toList args.toList ds p := hA0
  rw [Try.params3] at hA
  have hargs : args = #[] ∧ ds = [] := by
    cases hl : args.toList with
    | nil =>
      rw [hl] at hA
      cases ds with
      | nil => exact ⟨by apply Array.ext'; simpa using hl, rfl⟩
      | cons d ds => exact hA.elim
    | cons v l => rw [hl] at hA; exact hA.elim
  obtain ⟨rfl, rfl⟩ := hargs
  obtain ⟨rfl, rfl⟩ := trodVars_none hV
  refine Calls.mono (closed_table C xp_ok xp_name known_ok runs W) fun e W' ⟨he, hw⟩ => ?_
  subst he
  exact ⟨_, rfl, post_true (bt := _) Try.laidOut hW' rfl hw (fun t ht => by simp [Try.params3] at ht) (by kernel_rfl) Try.underlying4 rfl⟩

theorem stateKnown_holds : Rows.StateKnownSaid :=
  OpenClaim.holds_of_wide 3 Try.f3 rfl rfl rfl rfl rfl rfl rfl ⟨rfl, rfl, rfl, rfl, rfl⟩ rfl rfl rfl rfl rfl (by kernel_rfl) Try.func3 (by kernel_rfl)
    (of_decide_eq_true (by kernel_rfl)) (by unfold Func.isWrapper; first | (rw [if_pos (by decide +kernel)]; kernel_rfl) | (rw [if_neg (by decide +kernel)]; exact ⟨rfl, rfl⟩))
    (fun os started H enc _ => stateKnown_lifted os started H enc)
end Go.Proofs.Ytcjkapadadonlaa
