/- What a monitor tells of samples is what it tells of them in parts, and each change is to another state, for all limits and samples and any place of the parting. -/
import Derived.Below
import Derived.Carry
import Derived.ChangeOld
import Derived.OpenShut
import Derived.ProofKit
import Derived.ShutString
import Derived.SizedLaws
import Derived.Test.YtodnfnnfjnnhmaaRows
import Derived.WalkKit
import Derived.Test.YtodnfnnfjnnhmaaCTopCraftTellsItsAlarms5
-- YtodnfnnfjnnhmaaRTopCraftTellsItsAlarmsg
namespace Go.Proofs.Ytodnfnnfjnnhmaa.topCraftTellsItsAlarms
open Go.ChangeShapes Go.WideShapes Go.ChangeAt Go.RowKit Go.Proofs.Ytodnfnnfjnnhmaa.A
set_option linter.unusedVariables false
theorem fact3 : (Rows.topCraftTellsItsAlarmsRow.recurses == Try.pinned.checked.prog.recurses 8) = true := by kernel_rfl
theorem fact4 : (Rows.topCraftTellsItsAlarmsRow.named == Try.pinned.checked.prog.varsNamed 8) = true := by kernel_rfl
end Go.Proofs.Ytodnfnnfjnnhmaa.topCraftTellsItsAlarms
