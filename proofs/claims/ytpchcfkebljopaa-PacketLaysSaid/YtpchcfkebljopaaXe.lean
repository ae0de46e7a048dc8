import Derived.Test.YtpchcfkebljopaaRows
import Derived.JoinedOf
import Derived.ProofKit
import Derived.Test.YtpchcfkebljopaaXd
set_option linter.unusedSimpArgs false
set_option linter.unusedVariables false
section
namespace Go.Proofs.Ytpchcfkebljopaa
open Go Go.ChangeShapes Go.WideShapes Go.ChangeAt Go.RowKit
theorem fact_make: (Try.prog.make==some Rows.ruleTotalRow.make)=true:=by kernel_rfl
end Go.Proofs.Ytpchcfkebljopaa
end
