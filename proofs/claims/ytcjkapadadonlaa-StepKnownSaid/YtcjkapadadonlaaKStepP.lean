/- The closed law StepKnown returns true: the interpreter over clean values runs it to its end, and is sound. No condition. -/
import Derived.Test.YtcjkapadadonlaaRows
import Derived.Test.YtcjkapadadonlaaTabR2
import Derived.Test.YtcjkapadadonlaaY24
import Derived.ProofKit
set_option linter.unusedSimpArgs false
set_option linter.unusedVariables false
namespace Go.Proofs.Ytcjkapadadonlaa
open Go.Cl Go Go.ChangeShapes Go.WideShapes Go.ChangeAt Go.RowKit

theorem Try.own : ownKnob Try.prog.godebug = none := by kernel_rfl
theorem Try.laidOut : laidOutB Try.prog = true := by kernel_rfl

noncomputable def xc : XC := ⟨catA (Try.f34.body.getD .skip), catB (Try.f34.body.getD .skip), catP (Try.f34.body.getD .skip), Try.f34.results.toList, Try.f34.ntmps, 7, 71, [2, 3], 5, catR (Try.f71.body.getD .skip), Try.f71.ntmps⟩
theorem xc_ok : XCok C 34 xc where
  fn := ⟨Try.f34, _, _, _, _, _, _, _, _, Try.func34, rfl, rfl, rfl⟩
  cl := ⟨Try.f71, _, _, _, _, _, Try.func71, rfl, rfl, rfl, by kernel_rfl⟩
  ok := ⟨by kernel_rfl, by kernel_rfl, by kernel_rfl, by kernel_rfl, by kernel_rfl⟩
  lt := ⟨of_decide_eq_true (by kernel_rfl), of_decide_eq_true (by kernel_rfl), fun t ht => of_decide_eq_true (List.all_eq_true.1 (show xc.caps.all (fun t => decide (t < xc.n)) = true by kernel_rfl) t ht), of_decide_eq_true (by kernel_rfl), of_decide_eq_true (by kernel_rfl)⟩
theorem ext_a : ExtFn C.P 117 Extern.MathFloatBits.float64bits := ⟨Try.f117, Try.func117, by kernel_rfl, by kernel_rfl, by kernel_rfl, by kernel_rfl⟩
theorem ext_b : ExtFn C.P 116 Extern.MathFloatBits.float64frombits := ⟨Try.f116, Try.func116, by kernel_rfl, by kernel_rfl, by kernel_rfl, by kernel_rfl⟩
noncomputable def xp : XP := ⟨extBits 117 116, oneOf [68, 108, 95], mkTab Try.prog, catAt 34 xc⟩
set_option maxRecDepth 100000 in
theorem xp_ok : XPok C xp := ⟨extBits_ok ext_a ext_b, fun _ _ h => mkTab_ok h, catAt_ok xc_ok⟩
theorem xp_name : ∀ f x, xp.cat f = some x → ∃ fn, C.P.funcs[f]? = some fn ∧ fn.body.isNone = false ∧ (fn.name == "runtime.NumGoroutine") = false := by
  intro f x h
  have h : catAt 34 xc f = some x := h
  unfold catAt at h
  cases hb : Nat.beq f 34 with
  | false => rw [hb] at h; cases h
  | true => rw [Nat.eq_of_beq_eq_true hb]; exact ⟨Try.f34, Try.func34, by kernel_rfl, by kernel_rfl⟩
end Go.Proofs.Ytcjkapadadonlaa
