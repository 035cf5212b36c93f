/-
  DERIVED. GIVEN WITH THE SEED: THE CARDS: each row of YtmegbllhidkmoaaDoorRows.lean that lists a variable, with what it lists TIED to the program's text (the seventh form; the later family's looks); each row that meets fmt, with fmt's text TOLD by the authors' own Lean function (tested against real Go, not proved from fmt's source: count such statements apart). THE CARD IS WHAT COUNTS. Prove the row's statement (the work); the ties are given (YtmegbllhidkmoaaDoorTie.lean); close each card by the builder's one call (the guide's Derived/Test/ToyasCard.lean, 'card_holds'). Laid BY PROGRAM, IN A SANDBOX (cutbox-door.mjs). By AI agents, Wed Nov 11 2026. No macro, syntax, notation, axiom, sorry.
-/
import Derived.Test.YtmegbllhidkmoaaDoorRows
import GoSem.ClaimSeven
namespace Go.Proofs.YtmegbllhidkmoaaDoor
namespace Rows

/-- THE TIED CARD OF 'tenancylaw02.TextGets'. -/
def textGetsCard : Claim7 := { stood := { row := textGetsRow, standIns := [], harness := (true, "fad86038caf14087bcc48f4fed779eaca1c2cad4f62044f6690a2f28f6f5ac6d"), looks := true }, kinds := [], alts := [], laidByText := true, laidKinds := [.data, .data, .data, .data, .sentinel, .sentinel, .pinned], laidTests := true, laidLooks := .later }
def TextGetsCardSaid : Prop := Claim7.holds Tryd.pinned (.plain (OpenSpec.ofChange textGetsSpec)) textGetsCard

/-- THE TIED CARD OF 'tenancylaw02.TextDots'. -/
def textDotsCard : Claim7 := { stood := { row := textDotsRow, standIns := [], harness := (true, "fad86038caf14087bcc48f4fed779eaca1c2cad4f62044f6690a2f28f6f5ac6d"), looks := true }, kinds := [], alts := [], laidByText := true, laidKinds := [.data, .data, .data, .data, .sentinel, .sentinel, .pinned], laidTests := true, laidLooks := .later }
def TextDotsCardSaid : Prop := Claim7.holds Tryd.pinned (.plain (OpenSpec.ofChange textDotsSpec)) textDotsCard

/-- THE TIED CARD OF 'tenancylaw02.TextPuts'. -/
def textPutsCard : Claim7 := { stood := { row := textPutsRow, standIns := [], harness := (true, "fad86038caf14087bcc48f4fed779eaca1c2cad4f62044f6690a2f28f6f5ac6d"), looks := true }, kinds := [], alts := [], laidByText := true, laidKinds := [.data, .data, .data, .data, .sentinel, .sentinel, .pinned], laidTests := true, laidLooks := .later }
def TextPutsCardSaid : Prop := Claim7.holds Tryd.pinned (.plain (OpenSpec.ofChange textPutsSpec)) textPutsCard

/-- THE TIED CARD OF 'tenancylaw02.TextBack'. -/
def textBackCard : Claim7 := { stood := { row := textBackRow, standIns := [], harness := (true, "fad86038caf14087bcc48f4fed779eaca1c2cad4f62044f6690a2f28f6f5ac6d"), looks := true }, kinds := [], alts := [], laidByText := true, laidKinds := [.data, .data, .data, .data, .sentinel, .sentinel, .pinned], laidTests := true, laidLooks := .later }
def TextBackCardSaid : Prop := Claim7.holds Tryd.pinned (.plain (OpenSpec.ofChange textBackSpec)) textBackCard

/-- THE TIED CARD OF 'tenancylaw02.TextForms'. -/
def textFormsCard : Claim7 := { stood := { row := textFormsRow, standIns := [], harness := (true, "fad86038caf14087bcc48f4fed779eaca1c2cad4f62044f6690a2f28f6f5ac6d"), looks := true }, kinds := [], alts := [], laidByText := true, laidKinds := [.data, .data, .data, .data, .sentinel, .sentinel, .pinned], laidTests := true, laidLooks := .later }
def TextFormsCardSaid : Prop := Claim7.holds Tryd.pinned (.plain (OpenSpec.ofChange textFormsSpec)) textFormsCard

/-- THE SECOND FORM's CARD OF 'tenancylaw02.TextGets'. -/
def textGetsUptoCard : Claim7 := { stood := { row := textGetsUptoRow, standIns := [], harness := (true, "fad86038caf14087bcc48f4fed779eaca1c2cad4f62044f6690a2f28f6f5ac6d"), looks := true }, kinds := [], alts := [], laidByText := true, laidKinds := [.data, .data, .data, .data, .sentinel, .sentinel, .pinned], laidTests := true, laidLooks := .later }
def TextGetsUptoCardSaid : Prop := Claim7.holds Tryd.pinned (.plain (OpenSpec.upto textGetsSpec)) textGetsUptoCard

/-- THE SECOND FORM's CARD OF 'tenancylaw02.TextDots'. -/
def textDotsUptoCard : Claim7 := { stood := { row := textDotsUptoRow, standIns := [], harness := (true, "fad86038caf14087bcc48f4fed779eaca1c2cad4f62044f6690a2f28f6f5ac6d"), looks := true }, kinds := [], alts := [], laidByText := true, laidKinds := [.data, .data, .data, .data, .sentinel, .sentinel, .pinned], laidTests := true, laidLooks := .later }
def TextDotsUptoCardSaid : Prop := Claim7.holds Tryd.pinned (.plain (OpenSpec.upto textDotsSpec)) textDotsUptoCard

/-- THE SECOND FORM's CARD OF 'tenancylaw02.TextPuts'. -/
def textPutsUptoCard : Claim7 := { stood := { row := textPutsUptoRow, standIns := [], harness := (true, "fad86038caf14087bcc48f4fed779eaca1c2cad4f62044f6690a2f28f6f5ac6d"), looks := true }, kinds := [], alts := [], laidByText := true, laidKinds := [.data, .data, .data, .data, .sentinel, .sentinel, .pinned], laidTests := true, laidLooks := .later }
def TextPutsUptoCardSaid : Prop := Claim7.holds Tryd.pinned (.plain (OpenSpec.upto textPutsSpec)) textPutsUptoCard

/-- THE SECOND FORM's CARD OF 'tenancylaw02.TextBack'. -/
def textBackUptoCard : Claim7 := { stood := { row := textBackUptoRow, standIns := [], harness := (true, "fad86038caf14087bcc48f4fed779eaca1c2cad4f62044f6690a2f28f6f5ac6d"), looks := true }, kinds := [], alts := [], laidByText := true, laidKinds := [.data, .data, .data, .data, .sentinel, .sentinel, .pinned], laidTests := true, laidLooks := .later }
def TextBackUptoCardSaid : Prop := Claim7.holds Tryd.pinned (.plain (OpenSpec.upto textBackSpec)) textBackUptoCard

/-- THE SECOND FORM's CARD OF 'tenancylaw02.TextForms'. -/
def textFormsUptoCard : Claim7 := { stood := { row := textFormsUptoRow, standIns := [], harness := (true, "fad86038caf14087bcc48f4fed779eaca1c2cad4f62044f6690a2f28f6f5ac6d"), looks := true }, kinds := [], alts := [], laidByText := true, laidKinds := [.data, .data, .data, .data, .sentinel, .sentinel, .pinned], laidTests := true, laidLooks := .later }
def TextFormsUptoCardSaid : Prop := Claim7.holds Tryd.pinned (.plain (OpenSpec.upto textFormsSpec)) textFormsUptoCard
end Rows
end Go.Proofs.YtmegbllhidkmoaaDoor
