/- With Count and Clear 1 and Back 0 the state is that of the last value by itself, for all limits and values, of a bulk of 1048576 at most. -/
import Derived.Below
import Derived.Carry
import Derived.ChangeOld
import Derived.Deep.CondSized
import Derived.JoinedCond
import Derived.OpenShut
import Derived.ProofKit
import Derived.ShutString
import Derived.SizedLaws
import Derived.Test.YtodnfnnfjnnhmaaRows
import Derived.WalkKit
import Derived.Test.YtodnfnnfjnnhmaaCLimitsPlainFollowValues4
-- YtodnfnnfjnnhmaaRLimitsPlainFollowValues2
namespace Go.Proofs.Ytodnfnnfjnnhmaa.limitsPlainFollowValues
open Go.ChangeShapes Go.WideShapes Go.ChangeAt Go.RowKit Go.Proofs.Ytodnfnnfjnnhmaa.A
set_option linter.unusedVariables false
theorem over : Rows.limitsPlainFollowValuesUptoRow.holds Try.pinned (Rows.OpenSpec.upto Rows.limitsPlainFollowValuesSpec) :=
 OpenClaim.holds_of_cond 4 Try.f4 rfl rfl rfl rfl rfl rfl rfl ⟨rfl, rfl, rfl, rfl, rfl⟩ rfl rfl rfl rfl rfl (by kernel_rfl) Try.func4 (by kernel_rfl)
  (of_decide_eq_true (by kernel_rfl)) (by unfold Func.isWrapper; first | (rw [if_pos (by decide +kernel)]; kernel_rfl) | (rw [if_neg (by decide +kernel)]; exact ⟨rfl, rfl⟩))
  (fun os started H enc _ F => lifted os started H enc F)
theorem proved : Rows.LimitsPlainFollowValuesUptoSaid := over
#print axioms proved
end Go.Proofs.Ytodnfnnfjnnhmaa.limitsPlainFollowValues
namespace Go.Proofs.Ytodnfnnfjnnhmaa
theorem limitsPlainFollowValues_holds : Rows.LimitsPlainFollowValuesUptoSaid := limitsPlainFollowValues.proved
end Go.Proofs.Ytodnfnnfjnnhmaa
