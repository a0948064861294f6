/- Follow, States and Longest of the program answer as the reference's do, with all errors. -/
import Derived.Below
import Derived.Carry
import Derived.ChangeOld
import Derived.OpenShut
import Derived.ProofKit
import Derived.ShutString
import Derived.SizedLaws
import Derived.Test.YtodnfnnfjnnhmaaRows
import Derived.WalkKit
import Derived.Test.YtodnfnnfjnnhmaaCLimitsFollowMatchSpec7
-- YtodnfnnfjnnhmaaRLimitsFollowMatchSpecg
namespace Go.Proofs.Ytodnfnnfjnnhmaa.limitsFollowMatchSpec
open Go.ChangeShapes Go.WideShapes Go.ChangeAt Go.RowKit Go.Proofs.Ytodnfnnfjnnhmaa.A
set_option linter.unusedVariables false
theorem fact3 : (Rows.limitsFollowMatchSpecRow.recurses == Try.pinned.checked.prog.recurses 9) = true := by kernel_rfl
theorem fact4 : (Rows.limitsFollowMatchSpecRow.named == Try.pinned.checked.prog.varsNamed 9) = true := by kernel_rfl
end Go.Proofs.Ytodnfnnfjnnhmaa.limitsFollowMatchSpec
