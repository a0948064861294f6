/- A watch is read as it was written, and the text of what was read is the text: for every watch and text the law returns true. The row lists two package-level variables with what they hold; the card ties them to the pruned copy of the program's text. -/
import Derived.Below
import Derived.Carry
import Derived.ChangeOld
import Derived.LaidLaws
import Derived.LaidOnce
import Derived.Lay
import Derived.OpenShut
import Derived.ProofKit
import Derived.SevenTiedAt
import Derived.ShutString
import Derived.SizedLaws
import Derived.Test.YtadhpgecilhgnaaDoorCards
import Derived.Test.YtadhpgecilhgnaaDoorRows
import Derived.Test.YtadhpgecilhgnaaDoorTie
import Derived.WalkKit
import Derived.Test.YtadhpgecilhgnaaDoorCWatchesTextsComeBack7
-- YtadhpgecilhgnaaDoorRWatchesTextsComeBackg
namespace Go.Proofs.YtadhpgecilhgnaaDoor.watchesTextsComeBack
open Go.ChangeShapes Go.WideShapes Go.ChangeAt Go.RowKit Go.Proofs.YtadhpgecilhgnaaDoor.A
set_option linter.unusedVariables false
theorem fact3 : (Rows.watchesTextsComeBackRow.recurses == Tryd.pinned.checked.prog.recurses 3) = true := by kernel_rfl
theorem fact4 : (Rows.watchesTextsComeBackRow.named == Tryd.pinned.checked.prog.varsNamed 3) = true := by kernel_rfl
end Go.Proofs.YtadhpgecilhgnaaDoor.watchesTextsComeBack
