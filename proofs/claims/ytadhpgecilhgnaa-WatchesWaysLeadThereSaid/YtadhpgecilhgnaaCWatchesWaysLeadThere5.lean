/- The events of a way lead to its mode; there is a way just if the mode is reached, and if the first mode is no trap for it. -/
import Derived.Below
import Derived.Carry
import Derived.ChangeOld
import Derived.OpenShut
import Derived.ProofKit
import Derived.ShutString
import Derived.SizedLaws
import Derived.Test.YtadhpgecilhgnaaRows
import Derived.WalkKit
import Derived.Test.YtadhpgecilhgnaaCWatchesWaysLeadThere4
-- YtadhpgecilhgnaaRWatchesWaysLeadTheref
namespace Go.Proofs.Ytadhpgecilhgnaa.watchesWaysLeadThere
open Go.ChangeShapes Go.WideShapes Go.ChangeAt Go.RowKit Go.Proofs.Ytadhpgecilhgnaa.A
set_option linter.unusedVariables false
theorem fact1 : (Rows.watchesWaysLeadThereRow.inPlace == Try.pinned.checked.prog.inPlace 10) = true := by kernel_rfl
theorem fact2 : (Rows.watchesWaysLeadThereRow.unfollowed == Try.pinned.checked.prog.unfollowed 10) = true := by kernel_rfl
end Go.Proofs.Ytadhpgecilhgnaa.watchesWaysLeadThere
