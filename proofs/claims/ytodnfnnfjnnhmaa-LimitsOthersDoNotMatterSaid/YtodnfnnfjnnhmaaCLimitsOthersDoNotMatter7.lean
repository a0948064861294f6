/- Samples of other parameters change no event of one, for all limits and samples. -/
import Derived.Below
import Derived.Carry
import Derived.ChangeOld
import Derived.OpenShut
import Derived.ProofKit
import Derived.ShutString
import Derived.SizedLaws
import Derived.Test.YtodnfnnfjnnhmaaRows
import Derived.WalkKit
import Derived.Test.YtodnfnnfjnnhmaaCLimitsOthersDoNotMatter6
-- YtodnfnnfjnnhmaaRLimitsOthersDoNotMatter2
namespace Go.Proofs.Ytodnfnnfjnnhmaa.limitsOthersDoNotMatter
open Go.ChangeShapes Go.WideShapes Go.ChangeAt Go.RowKit Go.Proofs.Ytodnfnnfjnnhmaa.A
set_option linter.unusedVariables false
theorem over : Rows.limitsOthersDoNotMatterRow.holds Try.pinned (OpenSpec.ofChange Rows.limitsOthersDoNotMatterSpec) :=
 OpenClaim.holds_of_wide 6 Try.f6 rfl rfl rfl rfl rfl rfl rfl ⟨rfl, rfl, rfl, rfl, rfl⟩ rfl rfl rfl rfl rfl (by kernel_rfl) Try.func6 (by unfold joinedFacts; rw [fact1, fact2, fact3, fact4]; kernel_rfl)
  (of_decide_eq_true (by kernel_rfl)) (by unfold Func.isWrapper; first | (rw [if_pos (by decide +kernel)]; kernel_rfl) | (rw [if_neg (by decide +kernel)]; exact ⟨rfl, rfl⟩))
  (fun os started H enc _ => lifted os started H enc)
theorem proved : Rows.LimitsOthersDoNotMatterSaid := over
#print axioms proved
end Go.Proofs.Ytodnfnnfjnnhmaa.limitsOthersDoNotMatter
namespace Go.Proofs.Ytodnfnnfjnnhmaa
theorem limitsOthersDoNotMatter_holds : Rows.LimitsOthersDoNotMatterSaid := limitsOthersDoNotMatter.proved
end Go.Proofs.Ytodnfnnfjnnhmaa
