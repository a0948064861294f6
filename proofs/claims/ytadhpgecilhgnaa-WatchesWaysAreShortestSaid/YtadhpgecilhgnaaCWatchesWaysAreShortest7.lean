/- No events fewer than those of a way lead to its mode. -/
import Derived.Below
import Derived.Carry
import Derived.ChangeOld
import Derived.OpenShut
import Derived.ProofKit
import Derived.ShutString
import Derived.SizedLaws
import Derived.Test.YtadhpgecilhgnaaRows
import Derived.WalkKit
import Derived.Test.YtadhpgecilhgnaaCWatchesWaysAreShortest6
-- YtadhpgecilhgnaaRWatchesWaysAreShortest2
namespace Go.Proofs.Ytadhpgecilhgnaa.watchesWaysAreShortest
open Go.ChangeShapes Go.WideShapes Go.ChangeAt Go.RowKit Go.Proofs.Ytadhpgecilhgnaa.A
set_option linter.unusedVariables false
theorem over : Rows.watchesWaysAreShortestRow.holds Try.pinned (OpenSpec.ofChange Rows.watchesWaysAreShortestSpec) :=
 OpenClaim.holds_of_wide 9 Try.f9 rfl rfl rfl rfl rfl rfl rfl ⟨rfl, rfl, rfl, rfl, rfl⟩ rfl rfl rfl rfl rfl (by kernel_rfl) Try.func9 (by unfold joinedFacts; rw [fact1, fact2, fact3, fact4]; kernel_rfl)
  (of_decide_eq_true (by kernel_rfl)) (by unfold Func.isWrapper; first | (rw [if_pos (by decide +kernel)]; kernel_rfl) | (rw [if_neg (by decide +kernel)]; exact ⟨rfl, rfl⟩))
  (fun os started H enc _ => lifted os started H enc)
theorem proved : Rows.WatchesWaysAreShortestSaid := over
#print axioms proved
end Go.Proofs.Ytadhpgecilhgnaa.watchesWaysAreShortest
namespace Go.Proofs.Ytadhpgecilhgnaa
theorem watchesWaysAreShortest_holds : Rows.WatchesWaysAreShortestSaid := watchesWaysAreShortest.proved
end Go.Proofs.Ytadhpgecilhgnaa
