/- Without as many samples of a parameter that are worse than good as its limit counts nothing happens to it, for all limits and samples. -/
import Derived.Below
import Derived.Carry
import Derived.ChangeOld
import Derived.OpenShut
import Derived.ProofKit
import Derived.ShutString
import Derived.SizedLaws
import Derived.Test.YtodnfnnfjnnhmaaRows
import Derived.WalkKit
import Derived.Test.YtodnfnnfjnnhmaaCLimitsNeedCount6
-- YtodnfnnfjnnhmaaRLimitsNeedCount2
namespace Go.Proofs.Ytodnfnnfjnnhmaa.limitsNeedCount
open Go.ChangeShapes Go.WideShapes Go.ChangeAt Go.RowKit Go.Proofs.Ytodnfnnfjnnhmaa.A
set_option linter.unusedVariables false
theorem over : Rows.limitsNeedCountRow.holds Try.pinned (OpenSpec.ofChange Rows.limitsNeedCountSpec) :=
 OpenClaim.holds_of_wide 5 Try.f5 rfl rfl rfl rfl rfl rfl rfl ⟨rfl, rfl, rfl, rfl, rfl⟩ rfl rfl rfl rfl rfl (by kernel_rfl) Try.func5 (by unfold joinedFacts; rw [fact1, fact2, fact3, fact4]; kernel_rfl)
  (of_decide_eq_true (by kernel_rfl)) (by unfold Func.isWrapper; first | (rw [if_pos (by decide +kernel)]; kernel_rfl) | (rw [if_neg (by decide +kernel)]; exact ⟨rfl, rfl⟩))
  (fun os started H enc _ => lifted os started H enc)
theorem proved : Rows.LimitsNeedCountSaid := over
#print axioms proved
end Go.Proofs.Ytodnfnnfjnnhmaa.limitsNeedCount
namespace Go.Proofs.Ytodnfnnfjnnhmaa
theorem limitsNeedCount_holds : Rows.LimitsNeedCountSaid := limitsNeedCount.proved
end Go.Proofs.Ytodnfnnfjnnhmaa
