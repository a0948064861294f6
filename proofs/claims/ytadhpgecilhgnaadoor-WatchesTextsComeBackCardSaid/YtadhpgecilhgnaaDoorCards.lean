/-
  DERIVED. GIVEN WITH THE SEED: THE CARDS: each row of YtadhpgecilhgnaaDoorRows.lean that lists a variable, with what it lists TIED to the program's text (the seventh form; the later family's looks); each row that meets fmt, with fmt's text TOLD by the authors' own Lean function (tested against real Go, not proved from fmt's source: count such statements apart). THE CARD IS WHAT COUNTS. Prove the row's statement (the work); the ties are given (YtadhpgecilhgnaaDoorTie.lean); close each card by the builder's one call (the guide's Derived/Test/ToyasCard.lean, 'card_holds'). Laid BY PROGRAM, IN A SANDBOX (cutbox-door.mjs). By AI agents, Wed Nov 11 2026. No macro, syntax, notation, axiom, sorry.
-/
import Derived.Test.YtadhpgecilhgnaaDoorRows
import GoSem.ClaimSeven
namespace Go.Proofs.YtadhpgecilhgnaaDoor
namespace Rows

/-- THE TIED CARD OF 'perigeelaw8.WatchesTextsComeBack'. -/
def watchesTextsComeBackCard : Claim7 := { stood := { row := watchesTextsComeBackRow, standIns := [], harness := (true, "80f53b87e44fb912d05b8831672c39e697c6e99e95a61a7818d5b78d77ca84a6"), looks := false }, kinds := [], alts := [], laidByText := true, laidKinds := [.data, .pinned], laidTests := true, laidLooks := .later }
def WatchesTextsComeBackCardSaid : Prop := Claim7.holds Tryd.pinned (.plain (OpenSpec.ofChange watchesTextsComeBackSpec)) watchesTextsComeBackCard

/-- THE TIED CARD OF 'perigeelaw8.WatchesTextsMatchSpec'. -/
def watchesTextsMatchSpecCard : Claim7 := { stood := { row := watchesTextsMatchSpecRow, standIns := [], harness := (true, "80f53b87e44fb912d05b8831672c39e697c6e99e95a61a7818d5b78d77ca84a6"), looks := false }, kinds := [], alts := [], laidByText := true, laidKinds := [.data, .pinned], laidTests := true, laidLooks := .later }
def WatchesTextsMatchSpecCardSaid : Prop := Claim7.holds Tryd.pinned (.plain (OpenSpec.ofChange watchesTextsMatchSpecSpec)) watchesTextsMatchSpecCard

/-- THE SECOND FORM's CARD OF 'perigeelaw8.WatchesTextsComeBack'. -/
def watchesTextsComeBackUptoCard : Claim7 := { stood := { row := watchesTextsComeBackUptoRow, standIns := [], harness := (true, "80f53b87e44fb912d05b8831672c39e697c6e99e95a61a7818d5b78d77ca84a6"), looks := false }, kinds := [], alts := [], laidByText := true, laidKinds := [.data, .pinned], laidTests := true, laidLooks := .later }
def WatchesTextsComeBackUptoCardSaid : Prop := Claim7.holds Tryd.pinned (.plain (OpenSpec.upto watchesTextsComeBackSpec)) watchesTextsComeBackUptoCard

/-- THE SECOND FORM's CARD OF 'perigeelaw8.WatchesTextsMatchSpec'. -/
def watchesTextsMatchSpecUptoCard : Claim7 := { stood := { row := watchesTextsMatchSpecUptoRow, standIns := [], harness := (true, "80f53b87e44fb912d05b8831672c39e697c6e99e95a61a7818d5b78d77ca84a6"), looks := false }, kinds := [], alts := [], laidByText := true, laidKinds := [.data, .pinned], laidTests := true, laidLooks := .later }
def WatchesTextsMatchSpecUptoCardSaid : Prop := Claim7.holds Tryd.pinned (.plain (OpenSpec.upto watchesTextsMatchSpecSpec)) watchesTextsMatchSpecUptoCard
end Rows
end Go.Proofs.YtadhpgecilhgnaaDoor
