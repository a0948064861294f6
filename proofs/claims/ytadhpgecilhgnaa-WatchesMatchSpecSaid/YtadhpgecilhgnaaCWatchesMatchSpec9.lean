/- CheckWatch, CheckEvents and Play are as specified, with all errors -/
import Derived.Below
import Derived.Carry
import Derived.ChangeOld
import Derived.OpenShut
import Derived.ProofKit
import Derived.ShutString
import Derived.SizedLaws
import Derived.Test.YtadhpgecilhgnaaRows
import Derived.WalkKit
import Derived.Test.YtadhpgecilhgnaaCWatchesMatchSpec8
-- YtadhpgecilhgnaaRWatchesMatchSpec2
namespace Go.Proofs.Ytadhpgecilhgnaa.watchesMatchSpec
open Go.ChangeShapes Go.WideShapes Go.ChangeAt Go.RowKit Go.Proofs.Ytadhpgecilhgnaa.A
set_option linter.unusedVariables false
theorem over : Rows.watchesMatchSpecRow.holds Try.pinned (OpenSpec.ofChange Rows.watchesMatchSpecSpec) :=
 OpenClaim.holds_of_wide 4 Try.f4 rfl rfl rfl rfl rfl rfl rfl ⟨rfl, rfl, rfl, rfl, rfl⟩ rfl rfl rfl rfl rfl (by kernel_rfl) Try.func4 (by unfold joinedFacts; rw [fact1, fact2, fact3, fact4]; kernel_rfl)
  (of_decide_eq_true (by kernel_rfl)) (by unfold Func.isWrapper; first | (rw [if_pos (by decide +kernel)]; kernel_rfl) | (rw [if_neg (by decide +kernel)]; exact ⟨rfl, rfl⟩))
  (fun os started H enc _ => lifted os started H enc)
theorem proved : Rows.WatchesMatchSpecSaid := over
#print axioms proved
end Go.Proofs.Ytadhpgecilhgnaa.watchesMatchSpec
namespace Go.Proofs.Ytadhpgecilhgnaa
theorem watchesMatchSpec_holds : Rows.WatchesMatchSpecSaid := watchesMatchSpec.proved
end Go.Proofs.Ytadhpgecilhgnaa
