/- The closed law RuleKnown returns true: the interpreter over clean values runs it to its end, and is sound. No condition. -/
import Derived.Test.YtbjbhoggbbhblaaRows
import Derived.Test.YtbjbhoggbbhblaaTabYtb
import Derived.Test.YtbjbhoggbbhblaaY20
import Derived.ProofKit
set_option linter.unusedSimpArgs false
set_option linter.unusedVariables false
namespace Go.Proofs.Ytbjbhoggbbhblaa
open Go.Cl Go Go.ChangeShapes Go.WideShapes Go.ChangeAt Go.RowKit

theorem Try.own : ownKnob Try.prog.godebug = none := by kernel_rfl
theorem Try.laidOut : laidOutB Try.prog = true := by kernel_rfl

noncomputable def xc : XC := ⟨catA (Try.f35.body.getD .skip), catB (Try.f35.body.getD .skip), catP (Try.f35.body.getD .skip), Try.f35.results.toList, Try.f35.ntmps, 7, 49, [2, 3], 5, catR (Try.f49.body.getD .skip), Try.f49.ntmps⟩
theorem xc_ok : XCok C 35 xc where
  fn := ⟨Try.f35, _, _, _, _, _, _, _, _, Try.func35, rfl, rfl, rfl⟩
  cl := ⟨Try.f49, _, _, _, _, _, Try.func49, rfl, rfl, rfl, by kernel_rfl⟩
  ok := ⟨by kernel_rfl, by kernel_rfl, by kernel_rfl, by kernel_rfl, by kernel_rfl⟩
  lt := ⟨of_decide_eq_true (by kernel_rfl), of_decide_eq_true (by kernel_rfl), fun t ht => of_decide_eq_true (List.all_eq_true.1 (show xc.caps.all (fun t => decide (t < xc.n)) = true by kernel_rfl) t ht), of_decide_eq_true (by kernel_rfl), of_decide_eq_true (by kernel_rfl)⟩
noncomputable def xp : XP := ⟨noExt, oneOf [], mkTab Try.prog, catAt 35 xc⟩
theorem xp_ok : XPok C xp := ⟨noExt_ok C, fun _ _ h => mkTab_ok h, catAt_ok xc_ok⟩
theorem xp_name : ∀ f x, xp.cat f = some x → ∃ fn, C.P.funcs[f]? = some fn ∧ fn.body.isNone = false ∧ (fn.name == "runtime.NumGoroutine") = false := by
  intro f x h
  have h : catAt 35 xc f = some x := h
  unfold catAt at h
  cases hb : Nat.beq f 35 with
  | false => rw [hb] at h; cases h
  | true => rw [Nat.eq_of_beq_eq_true hb]; exact ⟨Try.f35, Try.func35, by kernel_rfl, by kernel_rfl⟩
set_option maxRecDepth 1000000 in
theorem runs : isTrue (xrun C xp 100000 8 [] ⟨0, .e⟩) = true := by kernel_rfl

set_option maxRecDepth 100000 in
theorem ruleKnown_lifted (os : Os) (started : os.Started) (H : Type) (enc : TypeId × Value → H) :
    ReturnsInHanded {} Try.checked os 8 .any (Rows.ruleKnownSpec.pre6 enc Try.prog Try.f8 Rows.ruleKnownRow.domain false) (Rows.ruleKnownSpec.post enc Try.prog Try.f8 false true false false) := by
  refine returnsInHanded_of_change (C := Try.checked) Try.own started (by kernel_rfl) Try.func8
    (ChangeSpec.witness6 (enc := enc) (C := Try.checked) false ⟨#[], #[], []⟩ 8 (by kernel_rfl) (by kernel_rfl) (by kernel_rfl) (by kernel_rfl)) ?_
  intro W base args ds gs before hval0 hW hcnd _
  have hW' := hW
  obtain ⟨p, q, hA0, hV, rfl, hfz, hnd⟩ := hW
  have hA : DataW.TrodAll enc Try.prog W 0 (fun _ => true) true Try.f8.params.toList args.toList ds p := hA0
  rw [Try.params8] at hA
  have hargs : args = #[] ∧ ds = [] := by
    cases hl : args.toList with
    | nil =>
      rw [hl] at hA
      cases ds with
      | nil => exact ⟨by apply Array.ext'; simpa using hl, rfl⟩
      | cons d ds => exact hA.elim
    | cons v l => rw [hl] at hA; exact hA.elim
  obtain ⟨rfl, rfl⟩ := hargs
  obtain ⟨rfl, rfl⟩ := trodVars_none hV
  refine Calls.mono (closed_true xp_ok xp_name runs W) fun e W' ⟨he, hw⟩ => ?_
  subst he
  exact ⟨_, rfl, post_true (bt := _) Try.laidOut hW' rfl hw (fun t ht => by simp [Try.params8] at ht) (by kernel_rfl) Try.underlying4 rfl⟩

theorem ruleKnown_holds : Rows.RuleKnownSaid :=
  OpenClaim.holds_of_wide 8 Try.f8 rfl rfl rfl rfl rfl rfl rfl ⟨rfl, rfl, rfl, rfl, rfl⟩ rfl rfl rfl rfl rfl (by kernel_rfl) Try.func8 (by kernel_rfl)
    (of_decide_eq_true (by kernel_rfl)) (by unfold Func.isWrapper; first | (rw [if_pos (by decide +kernel)]; kernel_rfl) | (rw [if_neg (by decide +kernel)]; exact ⟨rfl, rfl⟩))
    (fun os started H enc _ => ruleKnown_lifted os started H enc)
end Go.Proofs.Ytbjbhoggbbhblaa
