/- What a monitor tells of samples is what it tells of them in parts, and each change is to another state, for all limits and samples and any place of the parting. -/
import Derived.Below
import Derived.Carry
import Derived.ChangeOld
import Derived.OpenShut
import Derived.ProofKit
import Derived.ShutString
import Derived.SizedLaws
import Derived.Test.YtodnfnnfjnnhmaaRows
import Derived.WalkKit
import Derived.Test.YtodnfnnfjnnhmaaCTopCraftTellsItsAlarms6
-- YtodnfnnfjnnhmaaRTopCraftTellsItsAlarms2
namespace Go.Proofs.Ytodnfnnfjnnhmaa.topCraftTellsItsAlarms
open Go.ChangeShapes Go.WideShapes Go.ChangeAt Go.RowKit Go.Proofs.Ytodnfnnfjnnhmaa.A
set_option linter.unusedVariables false
theorem over : Rows.topCraftTellsItsAlarmsRow.holds Try.pinned (OpenSpec.ofChange Rows.topCraftTellsItsAlarmsSpec) :=
 OpenClaim.holds_of_wide 8 Try.f8 rfl rfl rfl rfl rfl rfl rfl ⟨rfl, rfl, rfl, rfl, rfl⟩ rfl rfl rfl rfl rfl (by kernel_rfl) Try.func8 (by unfold joinedFacts; rw [fact1, fact2, fact3, fact4]; kernel_rfl)
  (of_decide_eq_true (by kernel_rfl)) (by unfold Func.isWrapper; first | (rw [if_pos (by decide +kernel)]; kernel_rfl) | (rw [if_neg (by decide +kernel)]; exact ⟨rfl, rfl⟩))
  (fun os started H enc _ => lifted os started H enc)
theorem proved : Rows.TopCraftTellsItsAlarmsSaid := over
#print axioms proved
end Go.Proofs.Ytodnfnnfjnnhmaa.topCraftTellsItsAlarms
namespace Go.Proofs.Ytodnfnnfjnnhmaa
theorem topCraftTellsItsAlarms_holds : Rows.TopCraftTellsItsAlarmsSaid := topCraftTellsItsAlarms.proved
end Go.Proofs.Ytodnfnnfjnnhmaa
