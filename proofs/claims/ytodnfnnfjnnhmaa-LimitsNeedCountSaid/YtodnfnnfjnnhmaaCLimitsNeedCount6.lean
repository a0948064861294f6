/- Without as many samples of a parameter that are worse than good as its limit counts nothing happens to it, for all limits and samples. -/
import Derived.Below
import Derived.Carry
import Derived.ChangeOld
import Derived.OpenShut
import Derived.ProofKit
import Derived.ShutString
import Derived.SizedLaws
import Derived.Test.YtodnfnnfjnnhmaaRows
import Derived.WalkKit
import Derived.Test.YtodnfnnfjnnhmaaCLimitsNeedCount5
-- YtodnfnnfjnnhmaaRLimitsNeedCountg
namespace Go.Proofs.Ytodnfnnfjnnhmaa.limitsNeedCount
open Go.ChangeShapes Go.WideShapes Go.ChangeAt Go.RowKit Go.Proofs.Ytodnfnnfjnnhmaa.A
set_option linter.unusedVariables false
theorem fact3 : (Rows.limitsNeedCountRow.recurses == Try.pinned.checked.prog.recurses 5) = true := by kernel_rfl
theorem fact4 : (Rows.limitsNeedCountRow.named == Try.pinned.checked.prog.varsNamed 5) = true := by kernel_rfl
end Go.Proofs.Ytodnfnnfjnnhmaa.limitsNeedCount
