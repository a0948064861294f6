/- Samples of other parameters change no event of one, for all limits and samples. -/
import Derived.Below
import Derived.Carry
import Derived.ChangeOld
import Derived.OpenShut
import Derived.ProofKit
import Derived.ShutString
import Derived.SizedLaws
import Derived.Test.YtodnfnnfjnnhmaaRows
import Derived.WalkKit
import Derived.Test.YtodnfnnfjnnhmaaCLimitsOthersDoNotMatter4
-- YtodnfnnfjnnhmaaRLimitsOthersDoNotMatterf
namespace Go.Proofs.Ytodnfnnfjnnhmaa.limitsOthersDoNotMatter
open Go.ChangeShapes Go.WideShapes Go.ChangeAt Go.RowKit Go.Proofs.Ytodnfnnfjnnhmaa.A
set_option linter.unusedVariables false
theorem fact1 : (Rows.limitsOthersDoNotMatterRow.inPlace == Try.pinned.checked.prog.inPlace 6) = true := by kernel_rfl
theorem fact2 : (Rows.limitsOthersDoNotMatterRow.unfollowed == Try.pinned.checked.prog.unfollowed 6) = true := by kernel_rfl
end Go.Proofs.Ytodnfnnfjnnhmaa.limitsOthersDoNotMatter
