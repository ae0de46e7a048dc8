/- The closed law ClientKnown returns true: the interpreter over clean values runs it to its end, and is sound. No condition. -/
import Derived.Test.YtcjkapadadonlaaGreatRows
import Derived.Test.YtcjkapadadonlaaGreatTabR2Z
import Derived.Test.YtcjkapadadonlaaGreatY24
import Derived.ProofKit
set_option linter.unusedSimpArgs false
set_option linter.unusedVariables false
namespace Go.Proofs.YtcjkapadadonlaaGreat
open Go.Cl Go Go.ChangeShapes Go.WideShapes Go.ChangeAt Go.RowKit

theorem Tryz.own : ownKnob Tryz.prog.godebug = none := by kernel_rfl
theorem Tryz.laidOut : laidOutB Tryz.prog = true := by kernel_rfl

noncomputable def xc : XC := ⟨catA (Tryz.f194.body.getD .skip), catB (Tryz.f194.body.getD .skip), catP (Tryz.f194.body.getD .skip), Tryz.f194.results.toList, Tryz.f194.ntmps, 7, 222, [2, 3], 5, catR (Tryz.f222.body.getD .skip), Tryz.f222.ntmps⟩
theorem xc_ok : XCok C 194 xc where
  fn := ⟨Tryz.f194, _, _, _, _, _, _, _, _, Tryz.func194, rfl, rfl, rfl⟩
  cl := ⟨Tryz.f222, _, _, _, _, _, Tryz.func222, rfl, rfl, rfl, by kernel_rfl⟩
  ok := ⟨by kernel_rfl, by kernel_rfl, by kernel_rfl, by kernel_rfl, by kernel_rfl⟩
  lt := ⟨of_decide_eq_true (by kernel_rfl), of_decide_eq_true (by kernel_rfl), fun t ht => of_decide_eq_true (List.all_eq_true.1 (show xc.caps.all (fun t => decide (t < xc.n)) = true by kernel_rfl) t ht), of_decide_eq_true (by kernel_rfl), of_decide_eq_true (by kernel_rfl)⟩
theorem ext_a : ExtFn C.P 203 Extern.MathFloatBits.float64bits := ⟨Tryz.f203, Tryz.func203, by kernel_rfl, by kernel_rfl, by kernel_rfl, by kernel_rfl⟩
theorem ext_b : ExtFn C.P 93 Extern.MathFloatBits.float64frombits := ⟨Tryz.f93, Tryz.func93, by kernel_rfl, by kernel_rfl, by kernel_rfl, by kernel_rfl⟩
noncomputable def xp : XP := ⟨extBits 203 93, oneOf [213, 228, 215, 113, 41], mkTab Tryz.prog, catAt 194 xc⟩
set_option maxRecDepth 100000 in
theorem xp_ok : XPok C xp := ⟨extBits_ok ext_a ext_b, fun _ _ h => mkTab_ok h, catAt_ok xc_ok⟩
theorem xp_name : ∀ f x, xp.cat f = some x → ∃ fn, C.P.funcs[f]? = some fn ∧ fn.body.isNone = false ∧ (fn.name == "runtime.NumGoroutine") = false := by
  intro f x h
  have h : catAt 194 xc f = some x := h
  unfold catAt at h
  cases hb : Nat.beq f 194 with
  | false => rw [hb] at h; cases h
  | true => rw [Nat.eq_of_beq_eq_true hb]; exact ⟨Tryz.f194, Tryz.func194, by kernel_rfl, by kernel_rfl⟩
end Go.Proofs.YtcjkapadadonlaaGreat
