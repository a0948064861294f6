/- Of a ring of rules each one raises the event of the next one, the last one that of the first one, and it begins with its least name. -/
import Derived.Below
import Derived.Carry
import Derived.ChangeOld
import Derived.OpenShut
import Derived.ProofKit
import Derived.ShutString
import Derived.SizedLaws
import Derived.Test.YtadhpgecilhgnaaRows
import Derived.WalkKit
import Derived.Test.YtadhpgecilhgnaaCWatchesLoopsAreRings5
-- YtadhpgecilhgnaaRWatchesLoopsAreRingsg
namespace Go.Proofs.Ytadhpgecilhgnaa.watchesLoopsAreRings
open Go.ChangeShapes Go.WideShapes Go.ChangeAt Go.RowKit Go.Proofs.Ytadhpgecilhgnaa.A
set_option linter.unusedVariables false
theorem fact3 : (Rows.watchesLoopsAreRingsRow.recurses == Try.pinned.checked.prog.recurses 3) = true := by kernel_rfl
theorem fact4 : (Rows.watchesLoopsAreRingsRow.named == Try.pinned.checked.prog.varsNamed 3) = true := by kernel_rfl
end Go.Proofs.Ytadhpgecilhgnaa.watchesLoopsAreRings
