/- ModeAt and UnitsOn are as specified, with all errors -/
import Derived.Below
import Derived.Carry
import Derived.ChangeOld
import Derived.OpenShut
import Derived.ProofKit
import Derived.ShutString
import Derived.SizedLaws
import Derived.Test.YtadhpgecilhgnaaRows
import Derived.WalkKit
import Derived.Test.YtadhpgecilhgnaaCWatchesStateMatchSpec6
-- YtadhpgecilhgnaaRWatchesStateMatchSpecf
namespace Go.Proofs.Ytadhpgecilhgnaa.watchesStateMatchSpec
open Go.ChangeShapes Go.WideShapes Go.ChangeAt Go.RowKit Go.Proofs.Ytadhpgecilhgnaa.A
set_option linter.unusedVariables false
theorem fact1 : (Rows.watchesStateMatchSpecRow.inPlace == Try.pinned.checked.prog.inPlace 11) = true := by kernel_rfl
theorem fact2 : (Rows.watchesStateMatchSpecRow.unfollowed == Try.pinned.checked.prog.unfollowed 11) = true := by kernel_rfl
end Go.Proofs.Ytadhpgecilhgnaa.watchesStateMatchSpec
