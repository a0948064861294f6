/- what the first events make is the beginning of what all make -/
import Derived.Below
import Derived.Carry
import Derived.ChangeOld
import Derived.OpenShut
import Derived.ProofKit
import Derived.ShutString
import Derived.SizedLaws
import Derived.Test.YtadhpgecilhgnaaRows
import Derived.WalkKit
import Derived.Test.YtadhpgecilhgnaaCWatchesPlayInParts6
-- YtadhpgecilhgnaaRWatchesPlayInPartsf
namespace Go.Proofs.Ytadhpgecilhgnaa.watchesPlayInParts
open Go.ChangeShapes Go.WideShapes Go.ChangeAt Go.RowKit Go.Proofs.Ytadhpgecilhgnaa.A
set_option linter.unusedVariables false
theorem fact1 : (Rows.watchesPlayInPartsRow.inPlace == Try.pinned.checked.prog.inPlace 5) = true := by kernel_rfl
theorem fact2 : (Rows.watchesPlayInPartsRow.unfollowed == Try.pinned.checked.prog.unfollowed 5) = true := by kernel_rfl
end Go.Proofs.Ytadhpgecilhgnaa.watchesPlayInParts
