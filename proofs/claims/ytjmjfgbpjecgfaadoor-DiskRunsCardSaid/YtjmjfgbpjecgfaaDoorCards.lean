/-
  DERIVED. GIVEN WITH THE SEED: THE CARDS: each row of YtjmjfgbpjecgfaaDoorRows.lean that lists a variable, with what it lists TIED to the program's text (the seventh form; the later family's looks); each row that meets fmt, with fmt's text TOLD by the authors' own Lean function (tested against real Go, not proved from fmt's source: count such statements apart). THE CARD IS WHAT COUNTS. Prove the row's statement (the work); the ties are given (YtjmjfgbpjecgfaaDoorTie.lean); close each card by the builder's one call (the guide's Derived/Test/ToyasCard.lean, 'card_holds'). Laid BY PROGRAM, IN A SANDBOX (cutbox-door.mjs). By AI agents, Wed Nov 11 2026. No macro, syntax, notation, axiom, sorry.
-/
import Derived.Test.YtjmjfgbpjecgfaaDoorRows
import GoSem.ClaimSeven
namespace Go.Proofs.YtjmjfgbpjecgfaaDoor
namespace Rows

/-- THE TIED CARD OF 'bulkheadlaw04.DiskPicks'. -/
def diskPicksCard : Claim7 := { stood := { row := diskPicksRow, standIns := [], harness := (true, "375ddf04c28329740dcf17d667d86292ac2bb515f4ec1957f4cfa60c60723f85"), looks := true }, kinds := [], alts := [], laidByText := true, laidKinds := [.handle], laidTests := true, laidLooks := .later }
def DiskPicksCardSaid : Prop := Claim7.holds Tryd.pinned (.plain (OpenSpec.ofChange diskPicksSpec)) diskPicksCard

/-- THE TIED CARD OF 'bulkheadlaw04.DiskFuel'. -/
def diskFuelCard : Claim7 := { stood := { row := diskFuelRow, standIns := [], harness := (true, "375ddf04c28329740dcf17d667d86292ac2bb515f4ec1957f4cfa60c60723f85"), looks := true }, kinds := [], alts := [], laidByText := true, laidKinds := [.handle], laidTests := true, laidLooks := .later }
def DiskFuelCardSaid : Prop := Claim7.holds Tryd.pinned (.plain (OpenSpec.ofChange diskFuelSpec)) diskFuelCard

/-- THE TIED CARD OF 'bulkheadlaw04.DiskKeeps'. -/
def diskKeepsCard : Claim7 := { stood := { row := diskKeepsRow, standIns := [], harness := (true, "375ddf04c28329740dcf17d667d86292ac2bb515f4ec1957f4cfa60c60723f85"), looks := true }, kinds := [], alts := [], laidByText := true, laidKinds := [.handle], laidTests := true, laidLooks := .later }
def DiskKeepsCardSaid : Prop := Claim7.holds Tryd.pinned (.plain (OpenSpec.ofChange diskKeepsSpec)) diskKeepsCard

/-- THE TIED CARD OF 'bulkheadlaw04.DiskAgain'. -/
def diskAgainCard : Claim7 := { stood := { row := diskAgainRow, standIns := [], harness := (true, "375ddf04c28329740dcf17d667d86292ac2bb515f4ec1957f4cfa60c60723f85"), looks := true }, kinds := [], alts := [], laidByText := true, laidKinds := [.handle], laidTests := true, laidLooks := .later }
def DiskAgainCardSaid : Prop := Claim7.holds Tryd.pinned (.plain (OpenSpec.ofChange diskAgainSpec)) diskAgainCard

/-- THE TIED CARD OF 'bulkheadlaw04.DiskRuns'. -/
def diskRunsCard : Claim7 := { stood := { row := diskRunsRow, standIns := [], harness := (true, "375ddf04c28329740dcf17d667d86292ac2bb515f4ec1957f4cfa60c60723f85"), looks := true }, kinds := [], alts := [], laidByText := true, laidKinds := [.handle], laidTests := true, laidLooks := .later }
def DiskRunsCardSaid : Prop := Claim7.holds Tryd.pinned (.plain (OpenSpec.ofChange diskRunsSpec)) diskRunsCard

/-- THE TIED CARD OF 'bulkheadlaw04.DiskNone'. -/
def diskNoneCard : Claim7 := { stood := { row := diskNoneRow, standIns := [], harness := (true, "375ddf04c28329740dcf17d667d86292ac2bb515f4ec1957f4cfa60c60723f85"), looks := true }, kinds := [], alts := [], laidByText := true, laidKinds := [.handle], laidTests := true, laidLooks := .later }
def DiskNoneCardSaid : Prop := Claim7.holds Tryd.pinned (.plain (OpenSpec.ofChange diskNoneSpec)) diskNoneCard

/-- THE SECOND FORM's CARD OF 'bulkheadlaw04.DiskPicks'. -/
def diskPicksUptoCard : Claim7 := { stood := { row := diskPicksUptoRow, standIns := [], harness := (true, "375ddf04c28329740dcf17d667d86292ac2bb515f4ec1957f4cfa60c60723f85"), looks := true }, kinds := [], alts := [], laidByText := true, laidKinds := [.handle], laidTests := true, laidLooks := .later }
def DiskPicksUptoCardSaid : Prop := Claim7.holds Tryd.pinned (.plain (OpenSpec.upto diskPicksSpec)) diskPicksUptoCard

/-- THE SECOND FORM's CARD OF 'bulkheadlaw04.DiskFuel'. -/
def diskFuelUptoCard : Claim7 := { stood := { row := diskFuelUptoRow, standIns := [], harness := (true, "375ddf04c28329740dcf17d667d86292ac2bb515f4ec1957f4cfa60c60723f85"), looks := true }, kinds := [], alts := [], laidByText := true, laidKinds := [.handle], laidTests := true, laidLooks := .later }
def DiskFuelUptoCardSaid : Prop := Claim7.holds Tryd.pinned (.plain (OpenSpec.upto diskFuelSpec)) diskFuelUptoCard

/-- THE SECOND FORM's CARD OF 'bulkheadlaw04.DiskKeeps'. -/
def diskKeepsUptoCard : Claim7 := { stood := { row := diskKeepsUptoRow, standIns := [], harness := (true, "375ddf04c28329740dcf17d667d86292ac2bb515f4ec1957f4cfa60c60723f85"), looks := true }, kinds := [], alts := [], laidByText := true, laidKinds := [.handle], laidTests := true, laidLooks := .later }
def DiskKeepsUptoCardSaid : Prop := Claim7.holds Tryd.pinned (.plain (OpenSpec.upto diskKeepsSpec)) diskKeepsUptoCard

/-- THE SECOND FORM's CARD OF 'bulkheadlaw04.DiskAgain'. -/
def diskAgainUptoCard : Claim7 := { stood := { row := diskAgainUptoRow, standIns := [], harness := (true, "375ddf04c28329740dcf17d667d86292ac2bb515f4ec1957f4cfa60c60723f85"), looks := true }, kinds := [], alts := [], laidByText := true, laidKinds := [.handle], laidTests := true, laidLooks := .later }
def DiskAgainUptoCardSaid : Prop := Claim7.holds Tryd.pinned (.plain (OpenSpec.upto diskAgainSpec)) diskAgainUptoCard

/-- THE SECOND FORM's CARD OF 'bulkheadlaw04.DiskRuns'. -/
def diskRunsUptoCard : Claim7 := { stood := { row := diskRunsUptoRow, standIns := [], harness := (true, "375ddf04c28329740dcf17d667d86292ac2bb515f4ec1957f4cfa60c60723f85"), looks := true }, kinds := [], alts := [], laidByText := true, laidKinds := [.handle], laidTests := true, laidLooks := .later }
def DiskRunsUptoCardSaid : Prop := Claim7.holds Tryd.pinned (.plain (OpenSpec.upto diskRunsSpec)) diskRunsUptoCard

/-- THE SECOND FORM's CARD OF 'bulkheadlaw04.DiskNone'. -/
def diskNoneUptoCard : Claim7 := { stood := { row := diskNoneUptoRow, standIns := [], harness := (true, "375ddf04c28329740dcf17d667d86292ac2bb515f4ec1957f4cfa60c60723f85"), looks := true }, kinds := [], alts := [], laidByText := true, laidKinds := [.handle], laidTests := true, laidLooks := .later }
def DiskNoneUptoCardSaid : Prop := Claim7.holds Tryd.pinned (.plain (OpenSpec.upto diskNoneSpec)) diskNoneUptoCard
end Rows
end Go.Proofs.YtjmjfgbpjecgfaaDoor
