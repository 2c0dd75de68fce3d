/-
  DERIVED. GIVEN WITH THE SEED: THE CARDS: each row of YthpdpnegbkmbkaaGreatDoorRows.lean that lists a variable, with what it lists TIED to the program's text (the seventh form; the later family's looks); each row that meets fmt, with fmt's text TOLD by the authors' own Lean function (tested against real Go, not proved from fmt's source: count such statements apart). THE CARD IS WHAT COUNTS. Prove the row's statement (the work); the ties are given (YthpdpnegbkmbkaaGreatDoorTie.lean); close each card by the builder's one call (the guide's Derived/Test/ToyasCard.lean, 'card_holds'). Laid BY PROGRAM, IN A SANDBOX (cutbox-door.mjs). By AI agents, Wed Nov 11 2026. No macro, syntax, notation, axiom, sorry.
-/
import Derived.Test.YthpdpnegbkmbkaaGreatDoorRows
import GoSem.ClaimSeven
namespace Go.Proofs.YthpdpnegbkmbkaaGreatDoor
namespace Rows

/-- THE TIED CARD OF 'watchfirelaw29.PayloadValues'. -/
def payloadValuesCard : Claim7 := { stood := { row := payloadValuesRow, standIns := [], harness := (true, "11ed879809e6148d2f3fff08c7a7723ca0f2a5a3a2652b65c54c110b63747921"), looks := true }, kinds := [], alts := [], laidByText := true, laidKinds := [.data, .data, .data, .data, .sentinel, .sentinel, .pinned], laidTests := true, laidLooks := .later }
def PayloadValuesCardSaid : Prop := Claim7.holds Tryz.pinned (.plain (OpenSpec.ofChange payloadValuesSpec)) payloadValuesCard

/-- THE TIED CARD OF 'watchfirelaw29.PayloadTexts'. -/
def payloadTextsCard : Claim7 := { stood := { row := payloadTextsRow, standIns := [], harness := (true, "11ed879809e6148d2f3fff08c7a7723ca0f2a5a3a2652b65c54c110b63747921"), looks := true }, kinds := [], alts := [], laidByText := true, laidKinds := [.data, .data, .data, .data, .sentinel, .sentinel, .pinned], laidTests := true, laidLooks := .later }
def PayloadTextsCardSaid : Prop := Claim7.holds Tryz.pinned (.plain (OpenSpec.ofChange payloadTextsSpec)) payloadTextsCard

/-- THE TIED CARD OF 'watchfirelaw29.PayloadCuts'. -/
def payloadCutsCard : Claim7 := { stood := { row := payloadCutsRow, standIns := [], harness := (true, "11ed879809e6148d2f3fff08c7a7723ca0f2a5a3a2652b65c54c110b63747921"), looks := true }, kinds := [], alts := [], laidByText := true, laidKinds := [.data, .data, .data, .data, .sentinel, .sentinel, .pinned], laidTests := true, laidLooks := .later }
def PayloadCutsCardSaid : Prop := Claim7.holds Tryz.pinned (.plain (OpenSpec.ofChange payloadCutsSpec)) payloadCutsCard

/-- THE TIED CARD OF 'watchfirelaw29.PayloadQuotes'. -/
def payloadQuotesCard : Claim7 := { stood := { row := payloadQuotesRow, standIns := [], harness := (true, "11ed879809e6148d2f3fff08c7a7723ca0f2a5a3a2652b65c54c110b63747921"), looks := true }, kinds := [], alts := [], laidByText := true, laidKinds := [.data, .data, .data, .data, .sentinel, .sentinel, .pinned], laidTests := true, laidLooks := .later }
def PayloadQuotesCardSaid : Prop := Claim7.holds Tryz.pinned (.plain (OpenSpec.ofChange payloadQuotesSpec)) payloadQuotesCard

/-- THE TIED CARD OF 'watchfirelaw29.PayloadBack'. -/
def payloadBackCard : Claim7 := { stood := { row := payloadBackRow, standIns := [], harness := (true, "11ed879809e6148d2f3fff08c7a7723ca0f2a5a3a2652b65c54c110b63747921"), looks := true }, kinds := [], alts := [], laidByText := true, laidKinds := [.data, .data, .data, .data, .sentinel, .sentinel, .pinned], laidTests := true, laidLooks := .later }
def PayloadBackCardSaid : Prop := Claim7.holds Tryz.pinned (.plain (OpenSpec.ofChange payloadBackSpec)) payloadBackCard

/-- THE SECOND FORM's CARD OF 'watchfirelaw29.PayloadValues'. -/
def payloadValuesUptoCard : Claim7 := { stood := { row := payloadValuesUptoRow, standIns := [], harness := (true, "11ed879809e6148d2f3fff08c7a7723ca0f2a5a3a2652b65c54c110b63747921"), looks := true }, kinds := [], alts := [], laidByText := true, laidKinds := [.data, .data, .data, .data, .sentinel, .sentinel, .pinned], laidTests := true, laidLooks := .later }
def PayloadValuesUptoCardSaid : Prop := Claim7.holds Tryz.pinned (.plain (OpenSpec.upto payloadValuesSpec)) payloadValuesUptoCard

/-- THE SECOND FORM's CARD OF 'watchfirelaw29.PayloadTexts'. -/
def payloadTextsUptoCard : Claim7 := { stood := { row := payloadTextsUptoRow, standIns := [], harness := (true, "11ed879809e6148d2f3fff08c7a7723ca0f2a5a3a2652b65c54c110b63747921"), looks := true }, kinds := [], alts := [], laidByText := true, laidKinds := [.data, .data, .data, .data, .sentinel, .sentinel, .pinned], laidTests := true, laidLooks := .later }
def PayloadTextsUptoCardSaid : Prop := Claim7.holds Tryz.pinned (.plain (OpenSpec.upto payloadTextsSpec)) payloadTextsUptoCard

/-- THE SECOND FORM's CARD OF 'watchfirelaw29.PayloadCuts'. -/
def payloadCutsUptoCard : Claim7 := { stood := { row := payloadCutsUptoRow, standIns := [], harness := (true, "11ed879809e6148d2f3fff08c7a7723ca0f2a5a3a2652b65c54c110b63747921"), looks := true }, kinds := [], alts := [], laidByText := true, laidKinds := [.data, .data, .data, .data, .sentinel, .sentinel, .pinned], laidTests := true, laidLooks := .later }
def PayloadCutsUptoCardSaid : Prop := Claim7.holds Tryz.pinned (.plain (OpenSpec.upto payloadCutsSpec)) payloadCutsUptoCard

/-- THE SECOND FORM's CARD OF 'watchfirelaw29.PayloadQuotes'. -/
def payloadQuotesUptoCard : Claim7 := { stood := { row := payloadQuotesUptoRow, standIns := [], harness := (true, "11ed879809e6148d2f3fff08c7a7723ca0f2a5a3a2652b65c54c110b63747921"), looks := true }, kinds := [], alts := [], laidByText := true, laidKinds := [.data, .data, .data, .data, .sentinel, .sentinel, .pinned], laidTests := true, laidLooks := .later }
def PayloadQuotesUptoCardSaid : Prop := Claim7.holds Tryz.pinned (.plain (OpenSpec.upto payloadQuotesSpec)) payloadQuotesUptoCard

/-- THE SECOND FORM's CARD OF 'watchfirelaw29.PayloadBack'. -/
def payloadBackUptoCard : Claim7 := { stood := { row := payloadBackUptoRow, standIns := [], harness := (true, "11ed879809e6148d2f3fff08c7a7723ca0f2a5a3a2652b65c54c110b63747921"), looks := true }, kinds := [], alts := [], laidByText := true, laidKinds := [.data, .data, .data, .data, .sentinel, .sentinel, .pinned], laidTests := true, laidLooks := .later }
def PayloadBackUptoCardSaid : Prop := Claim7.holds Tryz.pinned (.plain (OpenSpec.upto payloadBackSpec)) payloadBackUptoCard
end Rows
end Go.Proofs.YthpdpnegbkmbkaaGreatDoor
