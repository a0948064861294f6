/- Of each parameter no two events behind one another have the same name, and the last one says the state at the end, for all limits and samples. -/
import Derived.Below
import Derived.Carry
import Derived.ChangeOld
import Derived.OpenShut
import Derived.ProofKit
import Derived.ShutString
import Derived.SizedLaws
import Derived.Test.YtodnfnnfjnnhmaaRows
import Derived.WalkKit
import Derived.Test.YtodnfnnfjnnhmaaCLimitsEventsAlternate4
-- YtodnfnnfjnnhmaaRLimitsEventsAlternatef
namespace Go.Proofs.Ytodnfnnfjnnhmaa.limitsEventsAlternate
open Go.ChangeShapes Go.WideShapes Go.ChangeAt Go.RowKit Go.Proofs.Ytodnfnnfjnnhmaa.A
set_option linter.unusedVariables false
theorem fact1 : (Rows.limitsEventsAlternateRow.inPlace == Try.pinned.checked.prog.inPlace 7) = true := by kernel_rfl
theorem fact2 : (Rows.limitsEventsAlternateRow.unfollowed == Try.pinned.checked.prog.unfollowed 7) = true := by kernel_rfl
end Go.Proofs.Ytodnfnnfjnnhmaa.limitsEventsAlternate
