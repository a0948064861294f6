/- what the first events make is the beginning of what all make -/
import Derived.Below
import Derived.Carry
import Derived.ChangeOld
import Derived.OpenShut
import Derived.ProofKit
import Derived.ShutString
import Derived.SizedLaws
import Derived.Test.YtadhpgecilhgnaaRows
import Derived.WalkKit
import Derived.Test.YtadhpgecilhgnaaCWatchesPlayInParts8
-- YtadhpgecilhgnaaRWatchesPlayInParts2
namespace Go.Proofs.Ytadhpgecilhgnaa.watchesPlayInParts
open Go.ChangeShapes Go.WideShapes Go.ChangeAt Go.RowKit Go.Proofs.Ytadhpgecilhgnaa.A
set_option linter.unusedVariables false
theorem over : Rows.watchesPlayInPartsRow.holds Try.pinned (OpenSpec.ofChange Rows.watchesPlayInPartsSpec) :=
 OpenClaim.holds_of_wide 5 Try.f5 rfl rfl rfl rfl rfl rfl rfl ⟨rfl, rfl, rfl, rfl, rfl⟩ rfl rfl rfl rfl rfl (by kernel_rfl) Try.func5 (by unfold joinedFacts; rw [fact1, fact2, fact3, fact4]; kernel_rfl)
  (of_decide_eq_true (by kernel_rfl)) (by unfold Func.isWrapper; first | (rw [if_pos (by decide +kernel)]; kernel_rfl) | (rw [if_neg (by decide +kernel)]; exact ⟨rfl, rfl⟩))
  (fun os started H enc _ => lifted os started H enc)
theorem proved : Rows.WatchesPlayInPartsSaid := over
#print axioms proved
end Go.Proofs.Ytadhpgecilhgnaa.watchesPlayInParts
namespace Go.Proofs.Ytadhpgecilhgnaa
theorem watchesPlayInParts_holds : Rows.WatchesPlayInPartsSaid := watchesPlayInParts.proved
end Go.Proofs.Ytadhpgecilhgnaa
