/- a rule that never fires with some events does not fire when only these come; and without a ring few events end without ErrLoop -/
import Derived.Below
import Derived.Carry
import Derived.ChangeOld
import Derived.OpenShut
import Derived.ProofKit
import Derived.ShutString
import Derived.SizedLaws
import Derived.Test.YtadhpgecilhgnaaRows
import Derived.WalkKit
import Derived.Test.YtadhpgecilhgnaaCWatchesNeverFire7
-- YtadhpgecilhgnaaRWatchesNeverFireg
namespace Go.Proofs.Ytadhpgecilhgnaa.watchesNeverFire
open Go.ChangeShapes Go.WideShapes Go.ChangeAt Go.RowKit Go.Proofs.Ytadhpgecilhgnaa.A
set_option linter.unusedVariables false
theorem fact3 : (Rows.watchesNeverFireRow.recurses == Try.pinned.checked.prog.recurses 8) = true := by kernel_rfl
theorem fact4 : (Rows.watchesNeverFireRow.named == Try.pinned.checked.prog.varsNamed 8) = true := by kernel_rfl
end Go.Proofs.Ytadhpgecilhgnaa.watchesNeverFire
