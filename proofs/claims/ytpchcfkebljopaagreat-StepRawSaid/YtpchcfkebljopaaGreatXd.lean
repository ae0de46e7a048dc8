import Derived.Test.YtpchcfkebljopaaGreatRows
import Derived.JoinedOf
import Derived.ProofKit
import Derived.Test.YtpchcfkebljopaaGreatXc
set_option linter.unusedSimpArgs false
set_option linter.unusedVariables false
section
namespace Go.Proofs.YtpchcfkebljopaaGreat
open Go Go.ChangeShapes Go.WideShapes Go.ChangeAt Go.RowKit
theorem Z1m: (Rows.stepRawRow.lifted==Tryz.prog.liftsFinal)=true:=by kernel_rfl
end Go.Proofs.YtpchcfkebljopaaGreat
end
