import Derived.Test.YtpchcfkebljopaaRows
import Derived.JoinedOf
import Derived.ProofKit
import Derived.Test.YtpchcfkebljopaaXe
set_option linter.unusedSimpArgs false
set_option linter.unusedVariables false
section
namespace Go.Proofs.Ytpchcfkebljopaa
open Go Go.ChangeShapes Go.WideShapes Go.ChangeAt Go.RowKit
end Go.Proofs.Ytpchcfkebljopaa
end
