import Derived.Test.YtpchcfkebljopaaGreatRows
import Derived.JoinedOf
import Derived.ProofKit
import Derived.Test.YtpchcfkebljopaaGreatXd
set_option linter.unusedSimpArgs false
set_option linter.unusedVariables false
section
namespace Go.Proofs.YtpchcfkebljopaaGreat
open Go Go.ChangeShapes Go.WideShapes Go.ChangeAt Go.RowKit
theorem fact_make: (Tryz.prog.make==some Rows.stepRawRow.make)=true:=by kernel_rfl
end Go.Proofs.YtpchcfkebljopaaGreat
end
