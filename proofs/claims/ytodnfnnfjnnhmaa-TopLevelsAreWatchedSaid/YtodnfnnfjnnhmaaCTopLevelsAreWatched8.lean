/- A watch over the levels of a battery has an alarm below its floor just if the battery is empty at some moment. -/
import Derived.Below
import Derived.Carry
import Derived.ChangeOld
import Derived.OpenShut
import Derived.ProofKit
import Derived.ShutString
import Derived.SizedLaws
import Derived.Test.YtodnfnnfjnnhmaaRows
import Derived.WalkKit
import Derived.Test.YtodnfnnfjnnhmaaCTopLevelsAreWatched7
-- YtodnfnnfjnnhmaaRTopLevelsAreWatchedg
namespace Go.Proofs.Ytodnfnnfjnnhmaa.topLevelsAreWatched
open Go.ChangeShapes Go.WideShapes Go.ChangeAt Go.RowKit Go.Proofs.Ytodnfnnfjnnhmaa.A
set_option linter.unusedVariables false
theorem fact3 : (Rows.topLevelsAreWatchedRow.recurses == Try.pinned.checked.prog.recurses 10) = true := by kernel_rfl
theorem fact4 : (Rows.topLevelsAreWatchedRow.named == Try.pinned.checked.prog.varsNamed 10) = true := by kernel_rfl
end Go.Proofs.Ytodnfnnfjnnhmaa.topLevelsAreWatched
