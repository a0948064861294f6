/- Text, and Read for any string, are as specified, with the lines of errors: for every watch and text the law returns true. The row lists two package-level variables with what they hold; the card ties them to the pruned copy of the program's text. -/
import Derived.Below
import Derived.Carry
import Derived.ChangeOld
import Derived.LaidLaws
import Derived.LaidOnce
import Derived.Lay
import Derived.OpenShut
import Derived.ProofKit
import Derived.SevenTiedAt
import Derived.ShutString
import Derived.SizedLaws
import Derived.Test.YtadhpgecilhgnaaDoorCards
import Derived.Test.YtadhpgecilhgnaaDoorRows
import Derived.Test.YtadhpgecilhgnaaDoorTie
import Derived.WalkKit
import Derived.Test.YtadhpgecilhgnaaDoorCWatchesTextsMatchSpec8
-- YtadhpgecilhgnaaDoorRWatchesTextsMatchSpec2
namespace Go.Proofs.YtadhpgecilhgnaaDoor.watchesTextsMatchSpec
open Go.ChangeShapes Go.WideShapes Go.ChangeAt Go.RowKit Go.Proofs.YtadhpgecilhgnaaDoor.A
set_option linter.unusedVariables false
theorem over : Rows.watchesTextsMatchSpecRow.holds Tryd.pinned (OpenSpec.ofChange Rows.watchesTextsMatchSpecSpec) :=
 OpenClaim.holds_of_wide 4 Tryd.f4 rfl rfl rfl rfl rfl rfl rfl ⟨rfl, rfl, rfl, rfl, rfl⟩ rfl rfl rfl rfl rfl (by kernel_rfl) Tryd.func4 (by unfold joinedFacts; rw [fact1, fact2, fact3, fact4]; kernel_rfl)
  (of_decide_eq_true (by kernel_rfl)) (by unfold Func.isWrapper; first | (rw [if_pos (by decide +kernel)]; kernel_rfl) | (rw [if_neg (by decide +kernel)]; exact ⟨rfl, rfl⟩))
  (fun os started H enc _ => lifted os started H enc)
theorem proved : Rows.WatchesTextsMatchSpecCardSaid :=
 Claim7.holds_tied_plain_at .later [] [.data, .pinned] true (true, "80f53b87e44fb912d05b8831672c39e697c6e99e95a61a7818d5b78d77ca84a6") false over (fun _ h => by cases h) (by kernel_rfl) (fun _ h => by cases h) watchesTextsMatchSpec_row_tie rfl ⟨rfl, rfl⟩ (by kernel_rfl) rfl
  (fun f fn hf hfn => by
   obtain rfl : f = 4 := Option.some.inj ((show Tryd.prog.funcNamed "perigee/perigeelaw8.WatchesTextsMatchSpec" = some 4 by kernel_rfl).symm.trans hf) |>.symm
   obtain rfl : fn = Tryd.f4 := (Option.some.inj (Tryd.func4.symm.trans hfn)).symm
   exact ⟨by kernel_rfl, fun j t ht => by
    rw [Tryd.params4] at ht
    have hm : t ∈ [26, 9] := by simpa using Array.mem_of_getElem? ht
    have hall : ([26, 9].all fun u => !Tryd.prog.wantsStandIn u) = true := by kernel_rfl
    exact (show Tryd.prog.wantsStandIn t = false by simpa using List.all_eq_true.1 hall t hm)⟩)
  (by kernel_rfl)
#print axioms proved
end Go.Proofs.YtadhpgecilhgnaaDoor.watchesTextsMatchSpec
namespace Go.Proofs.YtadhpgecilhgnaaDoor
theorem watchesTextsMatchSpec_holds : Rows.WatchesTextsMatchSpecCardSaid := watchesTextsMatchSpec.proved
end Go.Proofs.YtadhpgecilhgnaaDoor
