/- the mode behind any events is one that can be reached from the first one, and what is told came in such modes -/
import Derived.Below
import Derived.Carry
import Derived.ChangeOld
import Derived.OpenShut
import Derived.ProofKit
import Derived.ShutString
import Derived.SizedLaws
import Derived.Test.YtadhpgecilhgnaaRows
import Derived.WalkKit
import Derived.Test.YtadhpgecilhgnaaCWatchesModesAreReached8
-- YtadhpgecilhgnaaRWatchesModesAreReached2
namespace Go.Proofs.Ytadhpgecilhgnaa.watchesModesAreReached
open Go.ChangeShapes Go.WideShapes Go.ChangeAt Go.RowKit Go.Proofs.Ytadhpgecilhgnaa.A
set_option linter.unusedVariables false
theorem over : Rows.watchesModesAreReachedRow.holds Try.pinned (OpenSpec.ofChange Rows.watchesModesAreReachedSpec) :=
 OpenClaim.holds_of_wide 7 Try.f7 rfl rfl rfl rfl rfl rfl rfl ⟨rfl, rfl, rfl, rfl, rfl⟩ rfl rfl rfl rfl rfl (by kernel_rfl) Try.func7 (by unfold joinedFacts; rw [fact1, fact2, fact3, fact4]; kernel_rfl)
  (of_decide_eq_true (by kernel_rfl)) (by unfold Func.isWrapper; first | (rw [if_pos (by decide +kernel)]; kernel_rfl) | (rw [if_neg (by decide +kernel)]; exact ⟨rfl, rfl⟩))
  (fun os started H enc _ => lifted os started H enc)
theorem proved : Rows.WatchesModesAreReachedSaid := over
#print axioms proved
end Go.Proofs.Ytadhpgecilhgnaa.watchesModesAreReached
namespace Go.Proofs.Ytadhpgecilhgnaa
theorem watchesModesAreReached_holds : Rows.WatchesModesAreReachedSaid := watchesModesAreReached.proved
end Go.Proofs.Ytadhpgecilhgnaa
