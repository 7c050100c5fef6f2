/-
  DERIVED. GIVEN WITH THE SEED: THE CARDS: each row of YtkabkehfckbhcaaDoorRows.lean that lists a variable, with what it lists TIED to the program's text (the seventh form; the later family's looks); each row that meets fmt, with fmt's text TOLD by the authors' own Lean function (tested against real Go, not proved from fmt's source: count such statements apart). THE CARD IS WHAT COUNTS. Prove the row's statement (the work); the ties are given (YtkabkehfckbhcaaDoorTie.lean); close each card by the builder's one call (the guide's Derived/Test/ToyasCard.lean, 'card_holds'). Laid BY PROGRAM, IN A SANDBOX (cutbox-door.mjs). By AI agents, Wed Nov 11 2026. No macro, syntax, notation, axiom, sorry.
-/
import Derived.Test.YtkabkehfckbhcaaDoorRows
import GoSem.ClaimSeven
namespace Go.Proofs.YtkabkehfckbhcaaDoor
namespace Rows

/-- THE TIED CARD OF 'bulkheadlaw05.RingOpens'. -/
def ringOpensCard : Claim7 := { stood := { row := ringOpensRow, standIns := [], harness := (true, "d3678e76e65546d98386cfb8edddc6e1b02aa2ab7bda011f7fa9a76731c4d25c"), looks := true }, kinds := [], alts := [], laidByText := true, laidKinds := [.handle], laidTests := true, laidLooks := .later }
def RingOpensCardSaid : Prop := Claim7.holds Tryd.pinned (.plain (OpenSpec.ofChange ringOpensSpec)) ringOpensCard

/-- THE TIED CARD OF 'bulkheadlaw05.RingRuns'. -/
def ringRunsCard : Claim7 := { stood := { row := ringRunsRow, standIns := [], harness := (true, "d3678e76e65546d98386cfb8edddc6e1b02aa2ab7bda011f7fa9a76731c4d25c"), looks := true }, kinds := [], alts := [], laidByText := true, laidKinds := [.handle], laidTests := true, laidLooks := .later }
def RingRunsCardSaid : Prop := Claim7.holds Tryd.pinned (.plain (OpenSpec.ofChange ringRunsSpec)) ringRunsCard

/-- THE TIED CARD OF 'bulkheadlaw05.RingNone'. -/
def ringNoneCard : Claim7 := { stood := { row := ringNoneRow, standIns := [], harness := (true, "d3678e76e65546d98386cfb8edddc6e1b02aa2ab7bda011f7fa9a76731c4d25c"), looks := true }, kinds := [], alts := [], laidByText := true, laidKinds := [.handle], laidTests := true, laidLooks := .later }
def RingNoneCardSaid : Prop := Claim7.holds Tryd.pinned (.plain (OpenSpec.ofChange ringNoneSpec)) ringNoneCard

/-- THE TIED CARD OF 'bulkheadlaw05.RingRounds'. -/
def ringRoundsCard : Claim7 := { stood := { row := ringRoundsRow, standIns := [], harness := (true, "d3678e76e65546d98386cfb8edddc6e1b02aa2ab7bda011f7fa9a76731c4d25c"), looks := true }, kinds := [], alts := [], laidByText := true, laidKinds := [.handle], laidTests := true, laidLooks := .later }
def RingRoundsCardSaid : Prop := Claim7.holds Tryd.pinned (.plain (OpenSpec.ofChange ringRoundsSpec)) ringRoundsCard

/-- THE SECOND FORM's CARD OF 'bulkheadlaw05.RingOpens'. -/
def ringOpensUptoCard : Claim7 := { stood := { row := ringOpensUptoRow, standIns := [], harness := (true, "d3678e76e65546d98386cfb8edddc6e1b02aa2ab7bda011f7fa9a76731c4d25c"), looks := true }, kinds := [], alts := [], laidByText := true, laidKinds := [.handle], laidTests := true, laidLooks := .later }
def RingOpensUptoCardSaid : Prop := Claim7.holds Tryd.pinned (.plain (OpenSpec.upto ringOpensSpec)) ringOpensUptoCard

/-- THE SECOND FORM's CARD OF 'bulkheadlaw05.RingRuns'. -/
def ringRunsUptoCard : Claim7 := { stood := { row := ringRunsUptoRow, standIns := [], harness := (true, "d3678e76e65546d98386cfb8edddc6e1b02aa2ab7bda011f7fa9a76731c4d25c"), looks := true }, kinds := [], alts := [], laidByText := true, laidKinds := [.handle], laidTests := true, laidLooks := .later }
def RingRunsUptoCardSaid : Prop := Claim7.holds Tryd.pinned (.plain (OpenSpec.upto ringRunsSpec)) ringRunsUptoCard

/-- THE SECOND FORM's CARD OF 'bulkheadlaw05.RingNone'. -/
def ringNoneUptoCard : Claim7 := { stood := { row := ringNoneUptoRow, standIns := [], harness := (true, "d3678e76e65546d98386cfb8edddc6e1b02aa2ab7bda011f7fa9a76731c4d25c"), looks := true }, kinds := [], alts := [], laidByText := true, laidKinds := [.handle], laidTests := true, laidLooks := .later }
def RingNoneUptoCardSaid : Prop := Claim7.holds Tryd.pinned (.plain (OpenSpec.upto ringNoneSpec)) ringNoneUptoCard

/-- THE SECOND FORM's CARD OF 'bulkheadlaw05.RingRounds'. -/
def ringRoundsUptoCard : Claim7 := { stood := { row := ringRoundsUptoRow, standIns := [], harness := (true, "d3678e76e65546d98386cfb8edddc6e1b02aa2ab7bda011f7fa9a76731c4d25c"), looks := true }, kinds := [], alts := [], laidByText := true, laidKinds := [.handle], laidTests := true, laidLooks := .later }
def RingRoundsUptoCardSaid : Prop := Claim7.holds Tryd.pinned (.plain (OpenSpec.upto ringRoundsSpec)) ringRoundsUptoCard
end Rows
end Go.Proofs.YtkabkehfckbhcaaDoor
