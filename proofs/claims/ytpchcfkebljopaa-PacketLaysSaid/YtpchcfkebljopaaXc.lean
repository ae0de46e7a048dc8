import Derived.Test.YtpchcfkebljopaaRows
import Derived.JoinedOf
import Derived.ProofKit
import Derived.Test.YtpchcfkebljopaaXb
set_option linter.unusedSimpArgs false
set_option linter.unusedVariables false
section
namespace Go.Proofs.Ytpchcfkebljopaa
open Go Go.ChangeShapes Go.WideShapes Go.ChangeAt Go.RowKit
theorem fact_enter: Try.prog.mayEnter=true:=by kernel_rfl
end Go.Proofs.Ytpchcfkebljopaa
end
