/- What a monitor tells of samples is what it tells of them in parts, and each change is to another state, for all limits and samples and any place of the parting. -/
import Derived.Below
import Derived.Carry
import Derived.ChangeOld
import Derived.OpenShut
import Derived.ProofKit
import Derived.ShutString
import Derived.SizedLaws
import Derived.Test.YtodnfnnfjnnhmaaRows
import Derived.WalkKit
import Derived.Test.YtodnfnnfjnnhmaaCTopCraftTellsItsAlarms4
-- YtodnfnnfjnnhmaaRTopCraftTellsItsAlarmsf
namespace Go.Proofs.Ytodnfnnfjnnhmaa.topCraftTellsItsAlarms
open Go.ChangeShapes Go.WideShapes Go.ChangeAt Go.RowKit Go.Proofs.Ytodnfnnfjnnhmaa.A
set_option linter.unusedVariables false
theorem fact1 : (Rows.topCraftTellsItsAlarmsRow.inPlace == Try.pinned.checked.prog.inPlace 8) = true := by kernel_rfl
theorem fact2 : (Rows.topCraftTellsItsAlarmsRow.unfollowed == Try.pinned.checked.prog.unfollowed 8) = true := by kernel_rfl
end Go.Proofs.Ytodnfnnfjnnhmaa.topCraftTellsItsAlarms
