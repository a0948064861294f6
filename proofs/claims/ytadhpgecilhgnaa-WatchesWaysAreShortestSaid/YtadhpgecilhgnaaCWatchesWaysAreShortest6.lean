/- No events fewer than those of a way lead to its mode. -/
import Derived.Below
import Derived.Carry
import Derived.ChangeOld
import Derived.OpenShut
import Derived.ProofKit
import Derived.ShutString
import Derived.SizedLaws
import Derived.Test.YtadhpgecilhgnaaRows
import Derived.WalkKit
import Derived.Test.YtadhpgecilhgnaaCWatchesWaysAreShortest5
-- YtadhpgecilhgnaaRWatchesWaysAreShortestg
namespace Go.Proofs.Ytadhpgecilhgnaa.watchesWaysAreShortest
open Go.ChangeShapes Go.WideShapes Go.ChangeAt Go.RowKit Go.Proofs.Ytadhpgecilhgnaa.A
set_option linter.unusedVariables false
theorem fact3 : (Rows.watchesWaysAreShortestRow.recurses == Try.pinned.checked.prog.recurses 9) = true := by kernel_rfl
theorem fact4 : (Rows.watchesWaysAreShortestRow.named == Try.pinned.checked.prog.varsNamed 9) = true := by kernel_rfl
end Go.Proofs.Ytadhpgecilhgnaa.watchesWaysAreShortest
