/- A watch is read as it was written, and the text of what was read is the text: for every watch and text the law returns true. The row lists two package-level variables with what they hold; the card ties them to the pruned copy of the program's text. -/
import Derived.Below
import Derived.Carry
import Derived.ChangeOld
import Derived.LaidLaws
import Derived.LaidOnce
import Derived.Lay
import Derived.OpenShut
import Derived.ProofKit
import Derived.SevenTiedAt
import Derived.ShutString
import Derived.SizedLaws
import Derived.Test.YtadhpgecilhgnaaDoorCards
import Derived.Test.YtadhpgecilhgnaaDoorRows
import Derived.Test.YtadhpgecilhgnaaDoorTie
import Derived.WalkKit
import Derived.Test.YtadhpgecilhgnaaDoorCWatchesTextsComeBack8
-- YtadhpgecilhgnaaDoorRWatchesTextsComeBack2
namespace Go.Proofs.YtadhpgecilhgnaaDoor.watchesTextsComeBack
open Go.ChangeShapes Go.WideShapes Go.ChangeAt Go.RowKit Go.Proofs.YtadhpgecilhgnaaDoor.A
set_option linter.unusedVariables false
theorem over : Rows.watchesTextsComeBackRow.holds Tryd.pinned (OpenSpec.ofChange Rows.watchesTextsComeBackSpec) :=
 OpenClaim.holds_of_wide 3 Tryd.f3 rfl rfl rfl rfl rfl rfl rfl ⟨rfl, rfl, rfl, rfl, rfl⟩ rfl rfl rfl rfl rfl (by kernel_rfl) Tryd.func3 (by unfold joinedFacts; rw [fact1, fact2, fact3, fact4]; kernel_rfl)
  (of_decide_eq_true (by kernel_rfl)) (by unfold Func.isWrapper; first | (rw [if_pos (by decide +kernel)]; kernel_rfl) | (rw [if_neg (by decide +kernel)]; exact ⟨rfl, rfl⟩))
  (fun os started H enc _ => lifted os started H enc)
theorem proved : Rows.WatchesTextsComeBackCardSaid :=
 Claim7.holds_tied_plain_at .later [] [.data, .pinned] true (true, "80f53b87e44fb912d05b8831672c39e697c6e99e95a61a7818d5b78d77ca84a6") false over (fun _ h => by cases h) (by kernel_rfl) (fun _ h => by cases h) watchesTextsComeBack_row_tie rfl ⟨rfl, rfl⟩ (by kernel_rfl) rfl
  (fun f fn hf hfn => by
   obtain rfl : f = 3 := Option.some.inj ((show Tryd.prog.funcNamed "perigee/perigeelaw8.WatchesTextsComeBack" = some 3 by kernel_rfl).symm.trans hf) |>.symm
   obtain rfl : fn = Tryd.f3 := (Option.some.inj (Tryd.func3.symm.trans hfn)).symm
   exact ⟨by kernel_rfl, fun j t ht => by
    rw [Tryd.params3] at ht
    have hm : t ∈ [26, 9] := by simpa using Array.mem_of_getElem? ht
    have hall : ([26, 9].all fun u => !Tryd.prog.wantsStandIn u) = true := by kernel_rfl
    exact (show Tryd.prog.wantsStandIn t = false by simpa using List.all_eq_true.1 hall t hm)⟩)
  (by kernel_rfl)
#print axioms proved
end Go.Proofs.YtadhpgecilhgnaaDoor.watchesTextsComeBack
namespace Go.Proofs.YtadhpgecilhgnaaDoor
theorem watchesTextsComeBack_holds : Rows.WatchesTextsComeBackCardSaid := watchesTextsComeBack.proved
end Go.Proofs.YtadhpgecilhgnaaDoor
