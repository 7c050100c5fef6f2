/-
  DERIVED. GIVEN WITH THE SEED: THE CARDS: each row of YtgoddepgdgdacaaDoorRows.lean that lists a variable, with what it lists TIED to the program's text (the seventh form; the later family's looks); each row that meets fmt, with fmt's text TOLD by the authors' own Lean function (tested against real Go, not proved from fmt's source: count such statements apart). THE CARD IS WHAT COUNTS. Prove the row's statement (the work); the ties are given (YtgoddepgdgdacaaDoorTie.lean); close each card by the builder's one call (the guide's Derived/Test/ToyasCard.lean, 'card_holds'). Laid BY PROGRAM, IN A SANDBOX (cutbox-door.mjs). By AI agents, Wed Nov 11 2026. No macro, syntax, notation, axiom, sorry.
-/
import Derived.Test.YtgoddepgdgdacaaDoorRows
import GoSem.ClaimSeven
namespace Go.Proofs.YtgoddepgdgdacaaDoor
namespace Rows

/-- THE TIED CARD OF 'bulkheadlaw03.WoeSteps'. -/
def woeStepsCard : Claim7 := { stood := { row := woeStepsRow, standIns := [], harness := (true, "756e6b4b05c308b6d0e656c401b08d80124a7bb660a4ca8f4b000ed9a92d5baf"), looks := true }, kinds := [], alts := [], laidByText := true, laidKinds := [.handle], laidTests := true, laidLooks := .later }
def WoeStepsCardSaid : Prop := Claim7.holds Tryd.pinned (.plain (OpenSpec.ofChange woeStepsSpec)) woeStepsCard

/-- THE TIED CARD OF 'bulkheadlaw03.WoeIs'. -/
def woeIsCard : Claim7 := { stood := { row := woeIsRow, standIns := [], harness := (true, "756e6b4b05c308b6d0e656c401b08d80124a7bb660a4ca8f4b000ed9a92d5baf"), looks := true }, kinds := [], alts := [], laidByText := true, laidKinds := [.handle], laidTests := true, laidLooks := .later }
def WoeIsCardSaid : Prop := Claim7.holds Tryd.pinned (.plain (OpenSpec.ofChange woeIsSpec)) woeIsCard

/-- THE TIED CARD OF 'bulkheadlaw03.WoeTells'. -/
def woeTellsCard : Claim7 := { stood := { row := woeTellsRow, standIns := [], harness := (true, "756e6b4b05c308b6d0e656c401b08d80124a7bb660a4ca8f4b000ed9a92d5baf"), looks := true }, kinds := [], alts := [], laidByText := true, laidKinds := [.handle], laidTests := true, laidLooks := .later }
def WoeTellsCardSaid : Prop := Claim7.holds Tryd.pinned (.plain (OpenSpec.ofChange woeTellsSpec)) woeTellsCard

/-- THE TIED CARD OF 'bulkheadlaw03.WoeNothing'. -/
def woeNothingCard : Claim7 := { stood := { row := woeNothingRow, standIns := [], harness := (true, "756e6b4b05c308b6d0e656c401b08d80124a7bb660a4ca8f4b000ed9a92d5baf"), looks := true }, kinds := [], alts := [], laidByText := true, laidKinds := [.handle], laidTests := true, laidLooks := .later }
def WoeNothingCardSaid : Prop := Claim7.holds Tryd.pinned (.plain (OpenSpec.ofChange woeNothingSpec)) woeNothingCard

/-- THE TIED CARD OF 'bulkheadlaw03.WoeSays'. -/
def woeSaysCard : Claim7 := { stood := { row := woeSaysRow, standIns := [], harness := (true, "756e6b4b05c308b6d0e656c401b08d80124a7bb660a4ca8f4b000ed9a92d5baf"), looks := true }, kinds := [], alts := [], laidByText := true, laidKinds := [.data, .data, .data, .handle], laidTests := true, laidLooks := .later }
def WoeSaysCardSaid : Prop := Claim7.holds Tryd.pinned (.plain (OpenSpec.ofChange woeSaysSpec)) woeSaysCard

/-- THE SECOND FORM's CARD OF 'bulkheadlaw03.WoeSteps'. -/
def woeStepsUptoCard : Claim7 := { stood := { row := woeStepsUptoRow, standIns := [], harness := (true, "756e6b4b05c308b6d0e656c401b08d80124a7bb660a4ca8f4b000ed9a92d5baf"), looks := true }, kinds := [], alts := [], laidByText := true, laidKinds := [.handle], laidTests := true, laidLooks := .later }
def WoeStepsUptoCardSaid : Prop := Claim7.holds Tryd.pinned (.plain (OpenSpec.upto woeStepsSpec)) woeStepsUptoCard

/-- THE SECOND FORM's CARD OF 'bulkheadlaw03.WoeIs'. -/
def woeIsUptoCard : Claim7 := { stood := { row := woeIsUptoRow, standIns := [], harness := (true, "756e6b4b05c308b6d0e656c401b08d80124a7bb660a4ca8f4b000ed9a92d5baf"), looks := true }, kinds := [], alts := [], laidByText := true, laidKinds := [.handle], laidTests := true, laidLooks := .later }
def WoeIsUptoCardSaid : Prop := Claim7.holds Tryd.pinned (.plain (OpenSpec.upto woeIsSpec)) woeIsUptoCard

/-- THE SECOND FORM's CARD OF 'bulkheadlaw03.WoeTells'. -/
def woeTellsUptoCard : Claim7 := { stood := { row := woeTellsUptoRow, standIns := [], harness := (true, "756e6b4b05c308b6d0e656c401b08d80124a7bb660a4ca8f4b000ed9a92d5baf"), looks := true }, kinds := [], alts := [], laidByText := true, laidKinds := [.handle], laidTests := true, laidLooks := .later }
def WoeTellsUptoCardSaid : Prop := Claim7.holds Tryd.pinned (.plain (OpenSpec.upto woeTellsSpec)) woeTellsUptoCard

/-- THE SECOND FORM's CARD OF 'bulkheadlaw03.WoeNothing'. -/
def woeNothingUptoCard : Claim7 := { stood := { row := woeNothingUptoRow, standIns := [], harness := (true, "756e6b4b05c308b6d0e656c401b08d80124a7bb660a4ca8f4b000ed9a92d5baf"), looks := true }, kinds := [], alts := [], laidByText := true, laidKinds := [.handle], laidTests := true, laidLooks := .later }
def WoeNothingUptoCardSaid : Prop := Claim7.holds Tryd.pinned (.plain (OpenSpec.upto woeNothingSpec)) woeNothingUptoCard

/-- THE SECOND FORM's CARD OF 'bulkheadlaw03.WoeSays'. -/
def woeSaysUptoCard : Claim7 := { stood := { row := woeSaysUptoRow, standIns := [], harness := (true, "756e6b4b05c308b6d0e656c401b08d80124a7bb660a4ca8f4b000ed9a92d5baf"), looks := true }, kinds := [], alts := [], laidByText := true, laidKinds := [.data, .data, .data, .handle], laidTests := true, laidLooks := .later }
def WoeSaysUptoCardSaid : Prop := Claim7.holds Tryd.pinned (.plain (OpenSpec.upto woeSaysSpec)) woeSaysUptoCard
end Rows
end Go.Proofs.YtgoddepgdgdacaaDoor
