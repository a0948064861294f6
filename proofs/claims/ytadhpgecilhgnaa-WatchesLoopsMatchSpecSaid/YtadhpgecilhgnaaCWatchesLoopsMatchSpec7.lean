/- Loops and Never of the program say what those of the reference say, with all errors. -/
import Derived.Below
import Derived.Carry
import Derived.ChangeOld
import Derived.OpenShut
import Derived.ProofKit
import Derived.ShutString
import Derived.SizedLaws
import Derived.Test.YtadhpgecilhgnaaRows
import Derived.WalkKit
import Derived.Test.YtadhpgecilhgnaaCWatchesLoopsMatchSpec6
-- YtadhpgecilhgnaaRWatchesLoopsMatchSpecg
namespace Go.Proofs.Ytadhpgecilhgnaa.watchesLoopsMatchSpec
open Go.ChangeShapes Go.WideShapes Go.ChangeAt Go.RowKit Go.Proofs.Ytadhpgecilhgnaa.A
set_option linter.unusedVariables false
theorem fact3 : (Rows.watchesLoopsMatchSpecRow.recurses == Try.pinned.checked.prog.recurses 6) = true := by kernel_rfl
theorem fact4 : (Rows.watchesLoopsMatchSpecRow.named == Try.pinned.checked.prog.varsNamed 6) = true := by kernel_rfl
end Go.Proofs.Ytadhpgecilhgnaa.watchesLoopsMatchSpec
