/- Of a ring of rules each one raises the event of the next one, the last one that of the first one, and it begins with its least name. -/
import Derived.Below
import Derived.Carry
import Derived.ChangeOld
import Derived.OpenShut
import Derived.ProofKit
import Derived.ShutString
import Derived.SizedLaws
import Derived.Test.YtadhpgecilhgnaaRows
import Derived.WalkKit
import Derived.Test.YtadhpgecilhgnaaCWatchesLoopsAreRings6
-- YtadhpgecilhgnaaRWatchesLoopsAreRings2
namespace Go.Proofs.Ytadhpgecilhgnaa.watchesLoopsAreRings
open Go.ChangeShapes Go.WideShapes Go.ChangeAt Go.RowKit Go.Proofs.Ytadhpgecilhgnaa.A
set_option linter.unusedVariables false
theorem over : Rows.watchesLoopsAreRingsRow.holds Try.pinned (OpenSpec.ofChange Rows.watchesLoopsAreRingsSpec) :=
 OpenClaim.holds_of_wide 3 Try.f3 rfl rfl rfl rfl rfl rfl rfl ⟨rfl, rfl, rfl, rfl, rfl⟩ rfl rfl rfl rfl rfl (by kernel_rfl) Try.func3 (by unfold joinedFacts; rw [fact1, fact2, fact3, fact4]; kernel_rfl)
  (of_decide_eq_true (by kernel_rfl)) (by unfold Func.isWrapper; first | (rw [if_pos (by decide +kernel)]; kernel_rfl) | (rw [if_neg (by decide +kernel)]; exact ⟨rfl, rfl⟩))
  (fun os started H enc _ => lifted os started H enc)
theorem proved : Rows.WatchesLoopsAreRingsSaid := over
#print axioms proved
end Go.Proofs.Ytadhpgecilhgnaa.watchesLoopsAreRings
namespace Go.Proofs.Ytadhpgecilhgnaa
theorem watchesLoopsAreRings_holds : Rows.WatchesLoopsAreRingsSaid := watchesLoopsAreRings.proved
end Go.Proofs.Ytadhpgecilhgnaa
