/- CheckWatch, CheckEvents and Play are as specified, with all errors -/
import Derived.Below
import Derived.Carry
import Derived.ChangeOld
import Derived.OpenShut
import Derived.ProofKit
import Derived.ShutString
import Derived.SizedLaws
import Derived.Test.YtadhpgecilhgnaaRows
import Derived.WalkKit
import Derived.Test.YtadhpgecilhgnaaCWatchesMatchSpec7
-- YtadhpgecilhgnaaRWatchesMatchSpecg
namespace Go.Proofs.Ytadhpgecilhgnaa.watchesMatchSpec
open Go.ChangeShapes Go.WideShapes Go.ChangeAt Go.RowKit Go.Proofs.Ytadhpgecilhgnaa.A
set_option linter.unusedVariables false
theorem fact3 : (Rows.watchesMatchSpecRow.recurses == Try.pinned.checked.prog.recurses 4) = true := by kernel_rfl
theorem fact4 : (Rows.watchesMatchSpecRow.named == Try.pinned.checked.prog.varsNamed 4) = true := by kernel_rfl
end Go.Proofs.Ytadhpgecilhgnaa.watchesMatchSpec
