/- Samples of other parameters change no event of one, for all limits and samples. -/
import Derived.Below
import Derived.Carry
import Derived.ChangeOld
import Derived.OpenShut
import Derived.ProofKit
import Derived.ShutString
import Derived.SizedLaws
import Derived.Test.YtodnfnnfjnnhmaaRows
import Derived.WalkKit
import Derived.Test.YtodnfnnfjnnhmaaCLimitsOthersDoNotMatter5
-- YtodnfnnfjnnhmaaRLimitsOthersDoNotMatterg
namespace Go.Proofs.Ytodnfnnfjnnhmaa.limitsOthersDoNotMatter
open Go.ChangeShapes Go.WideShapes Go.ChangeAt Go.RowKit Go.Proofs.Ytodnfnnfjnnhmaa.A
set_option linter.unusedVariables false
theorem fact3 : (Rows.limitsOthersDoNotMatterRow.recurses == Try.pinned.checked.prog.recurses 6) = true := by kernel_rfl
theorem fact4 : (Rows.limitsOthersDoNotMatterRow.named == Try.pinned.checked.prog.varsNamed 6) = true := by kernel_rfl
end Go.Proofs.Ytodnfnnfjnnhmaa.limitsOthersDoNotMatter
