/- The events of a way lead to its mode; there is a way just if the mode is reached, and if the first mode is no trap for it. -/
import Derived.Below
import Derived.Carry
import Derived.ChangeOld
import Derived.OpenShut
import Derived.ProofKit
import Derived.ShutString
import Derived.SizedLaws
import Derived.Test.YtadhpgecilhgnaaRows
import Derived.WalkKit
import Derived.Test.YtadhpgecilhgnaaCWatchesWaysLeadThere6
-- YtadhpgecilhgnaaRWatchesWaysLeadThere2
namespace Go.Proofs.Ytadhpgecilhgnaa.watchesWaysLeadThere
open Go.ChangeShapes Go.WideShapes Go.ChangeAt Go.RowKit Go.Proofs.Ytadhpgecilhgnaa.A
set_option linter.unusedVariables false
theorem over : Rows.watchesWaysLeadThereRow.holds Try.pinned (OpenSpec.ofChange Rows.watchesWaysLeadThereSpec) :=
 OpenClaim.holds_of_wide 10 Try.f10 rfl rfl rfl rfl rfl rfl rfl ⟨rfl, rfl, rfl, rfl, rfl⟩ rfl rfl rfl rfl rfl (by kernel_rfl) Try.func10 (by unfold joinedFacts; rw [fact1, fact2, fact3, fact4]; kernel_rfl)
  (of_decide_eq_true (by kernel_rfl)) (by unfold Func.isWrapper; first | (rw [if_pos (by decide +kernel)]; kernel_rfl) | (rw [if_neg (by decide +kernel)]; exact ⟨rfl, rfl⟩))
  (fun os started H enc _ => lifted os started H enc)
theorem proved : Rows.WatchesWaysLeadThereSaid := over
#print axioms proved
end Go.Proofs.Ytadhpgecilhgnaa.watchesWaysLeadThere
namespace Go.Proofs.Ytadhpgecilhgnaa
theorem watchesWaysLeadThere_holds : Rows.WatchesWaysLeadThereSaid := watchesWaysLeadThere.proved
end Go.Proofs.Ytadhpgecilhgnaa
