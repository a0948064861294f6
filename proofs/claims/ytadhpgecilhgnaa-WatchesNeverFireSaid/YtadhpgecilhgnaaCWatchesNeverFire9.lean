/- a rule that never fires with some events does not fire when only these come; and without a ring few events end without ErrLoop -/
import Derived.Below
import Derived.Carry
import Derived.ChangeOld
import Derived.OpenShut
import Derived.ProofKit
import Derived.ShutString
import Derived.SizedLaws
import Derived.Test.YtadhpgecilhgnaaRows
import Derived.WalkKit
import Derived.Test.YtadhpgecilhgnaaCWatchesNeverFire8
-- YtadhpgecilhgnaaRWatchesNeverFire2
namespace Go.Proofs.Ytadhpgecilhgnaa.watchesNeverFire
open Go.ChangeShapes Go.WideShapes Go.ChangeAt Go.RowKit Go.Proofs.Ytadhpgecilhgnaa.A
set_option linter.unusedVariables false
theorem over : Rows.watchesNeverFireRow.holds Try.pinned (OpenSpec.ofChange Rows.watchesNeverFireSpec) :=
 OpenClaim.holds_of_wide 8 Try.f8 rfl rfl rfl rfl rfl rfl rfl ⟨rfl, rfl, rfl, rfl, rfl⟩ rfl rfl rfl rfl rfl (by kernel_rfl) Try.func8 (by unfold joinedFacts; rw [fact1, fact2, fact3, fact4]; kernel_rfl)
  (of_decide_eq_true (by kernel_rfl)) (by unfold Func.isWrapper; first | (rw [if_pos (by decide +kernel)]; kernel_rfl) | (rw [if_neg (by decide +kernel)]; exact ⟨rfl, rfl⟩))
  (fun os started H enc _ => lifted os started H enc)
theorem proved : Rows.WatchesNeverFireSaid := over
#print axioms proved
end Go.Proofs.Ytadhpgecilhgnaa.watchesNeverFire
namespace Go.Proofs.Ytadhpgecilhgnaa
theorem watchesNeverFire_holds : Rows.WatchesNeverFireSaid := watchesNeverFire.proved
end Go.Proofs.Ytadhpgecilhgnaa
