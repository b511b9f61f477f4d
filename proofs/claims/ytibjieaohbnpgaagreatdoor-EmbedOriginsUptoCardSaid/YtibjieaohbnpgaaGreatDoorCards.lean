/-
  DERIVED. GIVEN WITH THE SEED: THE CARDS: each row of YtibjieaohbnpgaaGreatDoorRows.lean that lists a variable, with what it lists TIED to the program's text (the seventh form; the later family's looks); each row that meets fmt, with fmt's text TOLD by the authors' own Lean function (tested against real Go, not proved from fmt's source: count such statements apart). THE CARD IS WHAT COUNTS. Prove the row's statement (the work); the ties are given (YtibjieaohbnpgaaGreatDoorTie.lean); close each card by the builder's one call (the guide's Derived/Test/ToyasCard.lean, 'card_holds'). Laid BY PROGRAM, IN A SANDBOX (cutbox-door.mjs). By AI agents, Wed Nov 11 2026. No macro, syntax, notation, axiom, sorry.
-/
import Derived.Test.YtibjieaohbnpgaaGreatDoorRows
import GoSem.ClaimSeven
namespace Go.Proofs.YtibjieaohbnpgaaGreatDoor
namespace Rows

/-- THE TIED CARD OF 'bastionlaw12.OriginOwner'. -/
def originOwnerCard : Claim7 := { stood := { row := originOwnerRow, standIns := [], harness := (true, "8d616a4dfcff389a56eb08e5b1ea5545f54b379bbaa107b72c1b82f555436e5e"), looks := true }, kinds := [], alts := [], laidByText := true, laidKinds := [.data, .data, .data, .data, .sentinel, .sentinel, .pinned], laidTests := true, laidLooks := .later }
def OriginOwnerCardSaid : Prop := Claim7.holds Tryz.pinned (.plain (OpenSpec.ofChange originOwnerSpec)) originOwnerCard

/-- THE TIED CARD OF 'bastionlaw12.OriginOpaque'. -/
def originOpaqueCard : Claim7 := { stood := { row := originOpaqueRow, standIns := [], harness := (true, "8d616a4dfcff389a56eb08e5b1ea5545f54b379bbaa107b72c1b82f555436e5e"), looks := true }, kinds := [], alts := [], laidByText := true, laidKinds := [.data, .data, .data, .data, .sentinel, .sentinel, .pinned], laidTests := true, laidLooks := .later }
def OriginOpaqueCardSaid : Prop := Claim7.holds Tryz.pinned (.plain (OpenSpec.ofChange originOpaqueSpec)) originOpaqueCard

/-- THE TIED CARD OF 'bastionlaw16.EmbedOrigins'. -/
def embedOriginsCard : Claim7 := { stood := { row := embedOriginsRow, standIns := [], harness := (true, "8d616a4dfcff389a56eb08e5b1ea5545f54b379bbaa107b72c1b82f555436e5e"), looks := true }, kinds := [], alts := [], laidByText := true, laidKinds := [.data, .data, .data, .data, .sentinel, .sentinel, .pinned], laidTests := true, laidLooks := .later }
def EmbedOriginsCardSaid : Prop := Claim7.holds Tryz.pinned (.plain (OpenSpec.ofChange embedOriginsSpec)) embedOriginsCard

/-- THE TIED CARD OF 'bastionlaw16.EmbedLess'. -/
def embedLessCard : Claim7 := { stood := { row := embedLessRow, standIns := [], harness := (true, "8d616a4dfcff389a56eb08e5b1ea5545f54b379bbaa107b72c1b82f555436e5e"), looks := true }, kinds := [], alts := [], laidByText := true, laidKinds := [.data, .data, .data, .data, .sentinel, .sentinel, .pinned], laidTests := true, laidLooks := .later }
def EmbedLessCardSaid : Prop := Claim7.holds Tryz.pinned (.plain (OpenSpec.ofChange embedLessSpec)) embedLessCard

/-- THE TIED CARD OF 'bastionlaw16.EmbedSwaps'. -/
def embedSwapsCard : Claim7 := { stood := { row := embedSwapsRow, standIns := [], harness := (true, "8d616a4dfcff389a56eb08e5b1ea5545f54b379bbaa107b72c1b82f555436e5e"), looks := true }, kinds := [], alts := [], laidByText := true, laidKinds := [.data, .data, .data, .data, .sentinel, .sentinel, .pinned], laidTests := true, laidLooks := .later }
def EmbedSwapsCardSaid : Prop := Claim7.holds Tryz.pinned (.plain (OpenSpec.ofChange embedSwapsSpec)) embedSwapsCard

/-- THE SECOND FORM's CARD OF 'bastionlaw12.OriginOwner'. -/
def originOwnerUptoCard : Claim7 := { stood := { row := originOwnerUptoRow, standIns := [], harness := (true, "8d616a4dfcff389a56eb08e5b1ea5545f54b379bbaa107b72c1b82f555436e5e"), looks := true }, kinds := [], alts := [], laidByText := true, laidKinds := [.data, .data, .data, .data, .sentinel, .sentinel, .pinned], laidTests := true, laidLooks := .later }
def OriginOwnerUptoCardSaid : Prop := Claim7.holds Tryz.pinned (.plain (OpenSpec.upto originOwnerSpec)) originOwnerUptoCard

/-- THE SECOND FORM's CARD OF 'bastionlaw12.OriginOpaque'. -/
def originOpaqueUptoCard : Claim7 := { stood := { row := originOpaqueUptoRow, standIns := [], harness := (true, "8d616a4dfcff389a56eb08e5b1ea5545f54b379bbaa107b72c1b82f555436e5e"), looks := true }, kinds := [], alts := [], laidByText := true, laidKinds := [.data, .data, .data, .data, .sentinel, .sentinel, .pinned], laidTests := true, laidLooks := .later }
def OriginOpaqueUptoCardSaid : Prop := Claim7.holds Tryz.pinned (.plain (OpenSpec.upto originOpaqueSpec)) originOpaqueUptoCard

/-- THE SECOND FORM's CARD OF 'bastionlaw16.EmbedOrigins'. -/
def embedOriginsUptoCard : Claim7 := { stood := { row := embedOriginsUptoRow, standIns := [], harness := (true, "8d616a4dfcff389a56eb08e5b1ea5545f54b379bbaa107b72c1b82f555436e5e"), looks := true }, kinds := [], alts := [], laidByText := true, laidKinds := [.data, .data, .data, .data, .sentinel, .sentinel, .pinned], laidTests := true, laidLooks := .later }
def EmbedOriginsUptoCardSaid : Prop := Claim7.holds Tryz.pinned (.plain (OpenSpec.upto embedOriginsSpec)) embedOriginsUptoCard

/-- THE SECOND FORM's CARD OF 'bastionlaw16.EmbedLess'. -/
def embedLessUptoCard : Claim7 := { stood := { row := embedLessUptoRow, standIns := [], harness := (true, "8d616a4dfcff389a56eb08e5b1ea5545f54b379bbaa107b72c1b82f555436e5e"), looks := true }, kinds := [], alts := [], laidByText := true, laidKinds := [.data, .data, .data, .data, .sentinel, .sentinel, .pinned], laidTests := true, laidLooks := .later }
def EmbedLessUptoCardSaid : Prop := Claim7.holds Tryz.pinned (.plain (OpenSpec.upto embedLessSpec)) embedLessUptoCard

/-- THE SECOND FORM's CARD OF 'bastionlaw16.EmbedSwaps'. -/
def embedSwapsUptoCard : Claim7 := { stood := { row := embedSwapsUptoRow, standIns := [], harness := (true, "8d616a4dfcff389a56eb08e5b1ea5545f54b379bbaa107b72c1b82f555436e5e"), looks := true }, kinds := [], alts := [], laidByText := true, laidKinds := [.data, .data, .data, .data, .sentinel, .sentinel, .pinned], laidTests := true, laidLooks := .later }
def EmbedSwapsUptoCardSaid : Prop := Claim7.holds Tryz.pinned (.plain (OpenSpec.upto embedSwapsSpec)) embedSwapsUptoCard
end Rows
end Go.Proofs.YtibjieaohbnpgaaGreatDoor
