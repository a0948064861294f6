/- Reached, Ways and Traps are as specified, with all errors. -/
import Derived.Below
import Derived.Carry
import Derived.ChangeOld
import Derived.OpenShut
import Derived.ProofKit
import Derived.ShutString
import Derived.SizedLaws
import Derived.Test.YtadhpgecilhgnaaRows
import Derived.WalkKit
import Derived.Test.YtadhpgecilhgnaaCWatchesFindMatchSpec7
-- YtadhpgecilhgnaaRWatchesFindMatchSpec2
namespace Go.Proofs.Ytadhpgecilhgnaa.watchesFindMatchSpec
open Go.ChangeShapes Go.WideShapes Go.ChangeAt Go.RowKit Go.Proofs.Ytadhpgecilhgnaa.A
set_option linter.unusedVariables false
theorem over : Rows.watchesFindMatchSpecRow.holds Try.pinned (OpenSpec.ofChange Rows.watchesFindMatchSpecSpec) :=
 OpenClaim.holds_of_wide 12 Try.f12 rfl rfl rfl rfl rfl rfl rfl ⟨rfl, rfl, rfl, rfl, rfl⟩ rfl rfl rfl rfl rfl (by kernel_rfl) Try.func12 (by unfold joinedFacts; rw [fact1, fact2, fact3, fact4]; kernel_rfl)
  (of_decide_eq_true (by kernel_rfl)) (by unfold Func.isWrapper; first | (rw [if_pos (by decide +kernel)]; kernel_rfl) | (rw [if_neg (by decide +kernel)]; exact ⟨rfl, rfl⟩))
  (fun os started H enc _ => lifted os started H enc)
theorem proved : Rows.WatchesFindMatchSpecSaid := over
#print axioms proved
end Go.Proofs.Ytadhpgecilhgnaa.watchesFindMatchSpec
namespace Go.Proofs.Ytadhpgecilhgnaa
theorem watchesFindMatchSpec_holds : Rows.WatchesFindMatchSpecSaid := watchesFindMatchSpec.proved
end Go.Proofs.Ytadhpgecilhgnaa
