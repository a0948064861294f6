/- ModeAt and UnitsOn are as specified, with all errors -/
import Derived.Below
import Derived.Carry
import Derived.ChangeOld
import Derived.OpenShut
import Derived.ProofKit
import Derived.ShutString
import Derived.SizedLaws
import Derived.Test.YtadhpgecilhgnaaRows
import Derived.WalkKit
import Derived.Test.YtadhpgecilhgnaaCWatchesStateMatchSpec8
-- YtadhpgecilhgnaaRWatchesStateMatchSpec2
namespace Go.Proofs.Ytadhpgecilhgnaa.watchesStateMatchSpec
open Go.ChangeShapes Go.WideShapes Go.ChangeAt Go.RowKit Go.Proofs.Ytadhpgecilhgnaa.A
set_option linter.unusedVariables false
theorem over : Rows.watchesStateMatchSpecRow.holds Try.pinned (OpenSpec.ofChange Rows.watchesStateMatchSpecSpec) :=
 OpenClaim.holds_of_wide 11 Try.f11 rfl rfl rfl rfl rfl rfl rfl ⟨rfl, rfl, rfl, rfl, rfl⟩ rfl rfl rfl rfl rfl (by kernel_rfl) Try.func11 (by unfold joinedFacts; rw [fact1, fact2, fact3, fact4]; kernel_rfl)
  (of_decide_eq_true (by kernel_rfl)) (by unfold Func.isWrapper; first | (rw [if_pos (by decide +kernel)]; kernel_rfl) | (rw [if_neg (by decide +kernel)]; exact ⟨rfl, rfl⟩))
  (fun os started H enc _ => lifted os started H enc)
theorem proved : Rows.WatchesStateMatchSpecSaid := over
#print axioms proved
end Go.Proofs.Ytadhpgecilhgnaa.watchesStateMatchSpec
namespace Go.Proofs.Ytadhpgecilhgnaa
theorem watchesStateMatchSpec_holds : Rows.WatchesStateMatchSpecSaid := watchesStateMatchSpec.proved
end Go.Proofs.Ytadhpgecilhgnaa
