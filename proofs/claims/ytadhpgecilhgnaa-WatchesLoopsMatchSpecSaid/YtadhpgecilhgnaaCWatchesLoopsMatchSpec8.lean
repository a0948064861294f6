/- Loops and Never of the program say what those of the reference say, with all errors. -/
import Derived.Below
import Derived.Carry
import Derived.ChangeOld
import Derived.OpenShut
import Derived.ProofKit
import Derived.ShutString
import Derived.SizedLaws
import Derived.Test.YtadhpgecilhgnaaRows
import Derived.WalkKit
import Derived.Test.YtadhpgecilhgnaaCWatchesLoopsMatchSpec7
-- YtadhpgecilhgnaaRWatchesLoopsMatchSpec2
namespace Go.Proofs.Ytadhpgecilhgnaa.watchesLoopsMatchSpec
open Go.ChangeShapes Go.WideShapes Go.ChangeAt Go.RowKit Go.Proofs.Ytadhpgecilhgnaa.A
set_option linter.unusedVariables false
theorem over : Rows.watchesLoopsMatchSpecRow.holds Try.pinned (OpenSpec.ofChange Rows.watchesLoopsMatchSpecSpec) :=
 OpenClaim.holds_of_wide 6 Try.f6 rfl rfl rfl rfl rfl rfl rfl ⟨rfl, rfl, rfl, rfl, rfl⟩ rfl rfl rfl rfl rfl (by kernel_rfl) Try.func6 (by unfold joinedFacts; rw [fact1, fact2, fact3, fact4]; kernel_rfl)
  (of_decide_eq_true (by kernel_rfl)) (by unfold Func.isWrapper; first | (rw [if_pos (by decide +kernel)]; kernel_rfl) | (rw [if_neg (by decide +kernel)]; exact ⟨rfl, rfl⟩))
  (fun os started H enc _ => lifted os started H enc)
theorem proved : Rows.WatchesLoopsMatchSpecSaid := over
#print axioms proved
end Go.Proofs.Ytadhpgecilhgnaa.watchesLoopsMatchSpec
namespace Go.Proofs.Ytadhpgecilhgnaa
theorem watchesLoopsMatchSpec_holds : Rows.WatchesLoopsMatchSpecSaid := watchesLoopsMatchSpec.proved
end Go.Proofs.Ytadhpgecilhgnaa
