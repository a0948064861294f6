/- the mode behind any events is one that can be reached from the first one, and what is told came in such modes -/
import Derived.Below
import Derived.Carry
import Derived.ChangeOld
import Derived.OpenShut
import Derived.ProofKit
import Derived.ShutString
import Derived.SizedLaws
import Derived.Test.YtadhpgecilhgnaaRows
import Derived.WalkKit
import Derived.Test.YtadhpgecilhgnaaCWatchesModesAreReached6
-- YtadhpgecilhgnaaRWatchesModesAreReachedf
namespace Go.Proofs.Ytadhpgecilhgnaa.watchesModesAreReached
open Go.ChangeShapes Go.WideShapes Go.ChangeAt Go.RowKit Go.Proofs.Ytadhpgecilhgnaa.A
set_option linter.unusedVariables false
theorem fact1 : (Rows.watchesModesAreReachedRow.inPlace == Try.pinned.checked.prog.inPlace 7) = true := by kernel_rfl
theorem fact2 : (Rows.watchesModesAreReachedRow.unfollowed == Try.pinned.checked.prog.unfollowed 7) = true := by kernel_rfl
end Go.Proofs.Ytadhpgecilhgnaa.watchesModesAreReached
