/- The events of a way lead to its mode; there is a way just if the mode is reached, and if the first mode is no trap for it. -/
import Derived.Below
import Derived.Carry
import Derived.ChangeOld
import Derived.OpenShut
import Derived.ProofKit
import Derived.ShutString
import Derived.SizedLaws
import Derived.Test.YtadhpgecilhgnaaRows
import Derived.WalkKit
import Derived.Test.YtadhpgecilhgnaaCWatchesWaysLeadThere5
-- YtadhpgecilhgnaaRWatchesWaysLeadThereg
namespace Go.Proofs.Ytadhpgecilhgnaa.watchesWaysLeadThere
open Go.ChangeShapes Go.WideShapes Go.ChangeAt Go.RowKit Go.Proofs.Ytadhpgecilhgnaa.A
set_option linter.unusedVariables false
theorem fact3 : (Rows.watchesWaysLeadThereRow.recurses == Try.pinned.checked.prog.recurses 10) = true := by kernel_rfl
theorem fact4 : (Rows.watchesWaysLeadThereRow.named == Try.pinned.checked.prog.varsNamed 10) = true := by kernel_rfl
end Go.Proofs.Ytadhpgecilhgnaa.watchesWaysLeadThere
