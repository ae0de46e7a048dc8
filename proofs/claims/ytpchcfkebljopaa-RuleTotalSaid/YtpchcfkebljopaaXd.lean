import Derived.Test.YtpchcfkebljopaaRows
import Derived.JoinedOf
import Derived.ProofKit
import Derived.Test.YtpchcfkebljopaaXc
set_option linter.unusedSimpArgs false
set_option linter.unusedVariables false
section
namespace Go.Proofs.Ytpchcfkebljopaa
open Go Go.ChangeShapes Go.WideShapes Go.ChangeAt Go.RowKit
theorem ruleTotal_facts : joinedFacts Try.prog 3 Try.f3 Rows.ruleTotalSpec Rows.ruleTotalRow = true := by
  unfold joinedFacts
  simp only [Bool.and_eq_true]
  with_reducible repeat' apply And.intro
  all_goals first | with_reducible exact fact_enter | with_reducible exact fact_lifts | with_reducible exact fact_make | kernel_rfl
end Go.Proofs.Ytpchcfkebljopaa
end
