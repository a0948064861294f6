/- A watch over the levels of a battery has an alarm below its floor just if the battery is empty at some moment. -/
import Derived.Below
import Derived.Carry
import Derived.ChangeOld
import Derived.OpenShut
import Derived.ProofKit
import Derived.ShutString
import Derived.SizedLaws
import Derived.Test.YtodnfnnfjnnhmaaRows
import Derived.WalkKit
import Derived.Test.YtodnfnnfjnnhmaaCTopLevelsAreWatched6
-- YtodnfnnfjnnhmaaRTopLevelsAreWatchedf
namespace Go.Proofs.Ytodnfnnfjnnhmaa.topLevelsAreWatched
open Go.ChangeShapes Go.WideShapes Go.ChangeAt Go.RowKit Go.Proofs.Ytodnfnnfjnnhmaa.A
set_option linter.unusedVariables false
theorem fact1 : (Rows.topLevelsAreWatchedRow.inPlace == Try.pinned.checked.prog.inPlace 10) = true := by kernel_rfl
theorem fact2 : (Rows.topLevelsAreWatchedRow.unfollowed == Try.pinned.checked.prog.unfollowed 10) = true := by kernel_rfl
end Go.Proofs.Ytodnfnnfjnnhmaa.topLevelsAreWatched
