/- Reached, Ways and Traps are as specified, with all errors. -/
import Derived.Below
import Derived.Carry
import Derived.ChangeOld
import Derived.OpenShut
import Derived.ProofKit
import Derived.ShutString
import Derived.SizedLaws
import Derived.Test.YtadhpgecilhgnaaRows
import Derived.WalkKit
import Derived.Test.YtadhpgecilhgnaaCWatchesFindMatchSpec5
-- YtadhpgecilhgnaaRWatchesFindMatchSpecf
namespace Go.Proofs.Ytadhpgecilhgnaa.watchesFindMatchSpec
open Go.ChangeShapes Go.WideShapes Go.ChangeAt Go.RowKit Go.Proofs.Ytadhpgecilhgnaa.A
set_option linter.unusedVariables false
theorem fact1 : (Rows.watchesFindMatchSpecRow.inPlace == Try.pinned.checked.prog.inPlace 12) = true := by kernel_rfl
theorem fact2 : (Rows.watchesFindMatchSpecRow.unfollowed == Try.pinned.checked.prog.unfollowed 12) = true := by kernel_rfl
end Go.Proofs.Ytadhpgecilhgnaa.watchesFindMatchSpec
