/- Of a ring of rules each one raises the event of the next one, the last one that of the first one, and it begins with its least name. -/
import Derived.Below
import Derived.Carry
import Derived.ChangeOld
import Derived.OpenShut
import Derived.ProofKit
import Derived.ShutString
import Derived.SizedLaws
import Derived.Test.YtadhpgecilhgnaaRows
import Derived.WalkKit
import Derived.Test.YtadhpgecilhgnaaCWatchesLoopsAreRings4
-- YtadhpgecilhgnaaRWatchesLoopsAreRingsf
namespace Go.Proofs.Ytadhpgecilhgnaa.watchesLoopsAreRings
open Go.ChangeShapes Go.WideShapes Go.ChangeAt Go.RowKit Go.Proofs.Ytadhpgecilhgnaa.A
set_option linter.unusedVariables false
theorem fact1 : (Rows.watchesLoopsAreRingsRow.inPlace == Try.pinned.checked.prog.inPlace 3) = true := by kernel_rfl
theorem fact2 : (Rows.watchesLoopsAreRingsRow.unfollowed == Try.pinned.checked.prog.unfollowed 3) = true := by kernel_rfl
end Go.Proofs.Ytadhpgecilhgnaa.watchesLoopsAreRings
