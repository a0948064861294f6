/- ModeAt and UnitsOn are as specified, with all errors -/
import Derived.Below
import Derived.Carry
import Derived.ChangeOld
import Derived.OpenShut
import Derived.ProofKit
import Derived.ShutString
import Derived.SizedLaws
import Derived.Test.YtadhpgecilhgnaaRows
import Derived.WalkKit
import Derived.Test.YtadhpgecilhgnaaCWatchesStateMatchSpec7
-- YtadhpgecilhgnaaRWatchesStateMatchSpecg
namespace Go.Proofs.Ytadhpgecilhgnaa.watchesStateMatchSpec
open Go.ChangeShapes Go.WideShapes Go.ChangeAt Go.RowKit Go.Proofs.Ytadhpgecilhgnaa.A
set_option linter.unusedVariables false
theorem fact3 : (Rows.watchesStateMatchSpecRow.recurses == Try.pinned.checked.prog.recurses 11) = true := by kernel_rfl
theorem fact4 : (Rows.watchesStateMatchSpecRow.named == Try.pinned.checked.prog.varsNamed 11) = true := by kernel_rfl
end Go.Proofs.Ytadhpgecilhgnaa.watchesStateMatchSpec
