/- Text, and Read for any string, are as specified, with the lines of errors: for every watch and text the law returns true. The row lists two package-level variables with what they hold; the card ties them to the pruned copy of the program's text. -/
import Derived.Below
import Derived.Carry
import Derived.ChangeOld
import Derived.LaidLaws
import Derived.LaidOnce
import Derived.Lay
import Derived.OpenShut
import Derived.ProofKit
import Derived.SevenTiedAt
import Derived.ShutString
import Derived.SizedLaws
import Derived.Test.YtadhpgecilhgnaaDoorCards
import Derived.Test.YtadhpgecilhgnaaDoorRows
import Derived.Test.YtadhpgecilhgnaaDoorTie
import Derived.WalkKit
import Derived.Test.YtadhpgecilhgnaaDoorCWatchesTextsMatchSpec7
-- YtadhpgecilhgnaaDoorRWatchesTextsMatchSpecg
namespace Go.Proofs.YtadhpgecilhgnaaDoor.watchesTextsMatchSpec
open Go.ChangeShapes Go.WideShapes Go.ChangeAt Go.RowKit Go.Proofs.YtadhpgecilhgnaaDoor.A
set_option linter.unusedVariables false
theorem fact3 : (Rows.watchesTextsMatchSpecRow.recurses == Tryd.pinned.checked.prog.recurses 4) = true := by kernel_rfl
theorem fact4 : (Rows.watchesTextsMatchSpecRow.named == Tryd.pinned.checked.prog.varsNamed 4) = true := by kernel_rfl
end Go.Proofs.YtadhpgecilhgnaaDoor.watchesTextsMatchSpec
