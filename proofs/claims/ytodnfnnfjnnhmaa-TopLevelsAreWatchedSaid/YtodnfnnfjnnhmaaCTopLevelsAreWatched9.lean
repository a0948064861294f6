/- A watch over the levels of a battery has an alarm below its floor just if the battery is empty at some moment. -/
import Derived.Below
import Derived.Carry
import Derived.ChangeOld
import Derived.OpenShut
import Derived.ProofKit
import Derived.ShutString
import Derived.SizedLaws
import Derived.Test.YtodnfnnfjnnhmaaRows
import Derived.WalkKit
import Derived.Test.YtodnfnnfjnnhmaaCTopLevelsAreWatched8
-- YtodnfnnfjnnhmaaRTopLevelsAreWatched2
namespace Go.Proofs.Ytodnfnnfjnnhmaa.topLevelsAreWatched
open Go.ChangeShapes Go.WideShapes Go.ChangeAt Go.RowKit Go.Proofs.Ytodnfnnfjnnhmaa.A
set_option linter.unusedVariables false
theorem over : Rows.topLevelsAreWatchedRow.holds Try.pinned (OpenSpec.ofChange Rows.topLevelsAreWatchedSpec) :=
 OpenClaim.holds_of_wide 10 Try.f10 rfl rfl rfl rfl rfl rfl rfl ⟨rfl, rfl, rfl, rfl, rfl⟩ rfl rfl rfl rfl rfl (by kernel_rfl) Try.func10 (by unfold joinedFacts; rw [fact1, fact2, fact3, fact4]; kernel_rfl)
  (of_decide_eq_true (by kernel_rfl)) (by unfold Func.isWrapper; first | (rw [if_pos (by decide +kernel)]; kernel_rfl) | (rw [if_neg (by decide +kernel)]; exact ⟨rfl, rfl⟩))
  (fun os started H enc _ => lifted os started H enc)
theorem proved : Rows.TopLevelsAreWatchedSaid := over
#print axioms proved
end Go.Proofs.Ytodnfnnfjnnhmaa.topLevelsAreWatched
namespace Go.Proofs.Ytodnfnnfjnnhmaa
theorem topLevelsAreWatched_holds : Rows.TopLevelsAreWatchedSaid := topLevelsAreWatched.proved
end Go.Proofs.Ytodnfnnfjnnhmaa
