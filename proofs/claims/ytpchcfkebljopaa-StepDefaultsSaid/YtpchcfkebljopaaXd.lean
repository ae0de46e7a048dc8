import Derived.Test.YtpchcfkebljopaaRows
import Derived.JoinedOf
import Derived.ProofKit
import Derived.Test.YtpchcfkebljopaaXc
set_option linter.unusedSimpArgs false
set_option linter.unusedVariables false
section
namespace Go.Proofs.Ytpchcfkebljopaa
open Go Go.ChangeShapes Go.WideShapes Go.ChangeAt Go.RowKit
theorem K1o: (Rows.ruleTotalRow.lifted==Try.prog.liftsFinal)=true:=by kernel_rfl
end Go.Proofs.Ytpchcfkebljopaa
end
