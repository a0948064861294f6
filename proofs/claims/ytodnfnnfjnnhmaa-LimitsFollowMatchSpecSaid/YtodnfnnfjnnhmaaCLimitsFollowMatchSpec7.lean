/- Follow, States and Longest of the program answer as the reference's do, with all errors. -/
import Derived.Below
import Derived.Carry
import Derived.ChangeOld
import Derived.OpenShut
import Derived.ProofKit
import Derived.ShutString
import Derived.SizedLaws
import Derived.Test.YtodnfnnfjnnhmaaRows
import Derived.WalkKit
import Derived.Test.YtodnfnnfjnnhmaaCLimitsFollowMatchSpec6
-- YtodnfnnfjnnhmaaRLimitsFollowMatchSpecf
namespace Go.Proofs.Ytodnfnnfjnnhmaa.limitsFollowMatchSpec
open Go.ChangeShapes Go.WideShapes Go.ChangeAt Go.RowKit Go.Proofs.Ytodnfnnfjnnhmaa.A
set_option linter.unusedVariables false
theorem fact1 : (Rows.limitsFollowMatchSpecRow.inPlace == Try.pinned.checked.prog.inPlace 9) = true := by kernel_rfl
theorem fact2 : (Rows.limitsFollowMatchSpecRow.unfollowed == Try.pinned.checked.prog.unfollowed 9) = true := by kernel_rfl
end Go.Proofs.Ytodnfnnfjnnhmaa.limitsFollowMatchSpec
