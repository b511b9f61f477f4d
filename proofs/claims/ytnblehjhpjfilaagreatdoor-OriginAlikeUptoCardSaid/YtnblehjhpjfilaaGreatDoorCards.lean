/-
  DERIVED. GIVEN WITH THE SEED: THE CARDS: each row of YtnblehjhpjfilaaGreatDoorRows.lean that lists a variable, with what it lists TIED to the program's text (the seventh form; the later family's looks); each row that meets fmt, with fmt's text TOLD by the authors' own Lean function (tested against real Go, not proved from fmt's source: count such statements apart). THE CARD IS WHAT COUNTS. Prove the row's statement (the work); the ties are given (YtnblehjhpjfilaaGreatDoorTie.lean); close each card by the builder's one call (the guide's Derived/Test/ToyasCard.lean, 'card_holds'). Laid BY PROGRAM, IN A SANDBOX (cutbox-door.mjs). By AI agents, Wed Nov 11 2026. No macro, syntax, notation, axiom, sorry.
-/
import Derived.Test.YtnblehjhpjfilaaGreatDoorRows
import GoSem.ClaimSeven
namespace Go.Proofs.YtnblehjhpjfilaaGreatDoor
namespace Rows

/-- THE TIED CARD OF 'bastionlaw09.UrlApart'. -/
def urlApartCard : Claim7 := { stood := { row := urlApartRow, standIns := [], harness := (true, "05caea940ce1a81737c888cbce422c1f098a373c9b513b91fb8b24113f136ff6"), looks := true }, kinds := [], alts := [], laidByText := true, laidKinds := [.data, .data, .data, .data, .sentinel, .sentinel, .pinned], laidTests := true, laidLooks := .later }
def UrlApartCardSaid : Prop := Claim7.holds Tryz.pinned (.plain (OpenSpec.ofChange urlApartSpec)) urlApartCard

/-- THE TIED CARD OF 'bastionlaw12.OriginRules'. -/
def originRulesCard : Claim7 := { stood := { row := originRulesRow, standIns := [], harness := (true, "05caea940ce1a81737c888cbce422c1f098a373c9b513b91fb8b24113f136ff6"), looks := true }, kinds := [], alts := [], laidByText := true, laidKinds := [.data, .data, .data, .data, .sentinel, .sentinel, .pinned], laidTests := true, laidLooks := .later }
def OriginRulesCardSaid : Prop := Claim7.holds Tryz.pinned (.plain (OpenSpec.ofChange originRulesSpec)) originRulesCard

/-- THE TIED CARD OF 'bastionlaw12.OriginAlike'. -/
def originAlikeCard : Claim7 := { stood := { row := originAlikeRow, standIns := [], harness := (true, "05caea940ce1a81737c888cbce422c1f098a373c9b513b91fb8b24113f136ff6"), looks := true }, kinds := [], alts := [], laidByText := true, laidKinds := [.data, .data, .data, .data, .sentinel, .sentinel, .pinned], laidTests := true, laidLooks := .later }
def OriginAlikeCardSaid : Prop := Claim7.holds Tryz.pinned (.plain (OpenSpec.ofChange originAlikeSpec)) originAlikeCard

/-- THE TIED CARD OF 'bastionlaw12.OriginOpaque'. -/
def originOpaqueCard : Claim7 := { stood := { row := originOpaqueRow, standIns := [], harness := (true, "05caea940ce1a81737c888cbce422c1f098a373c9b513b91fb8b24113f136ff6"), looks := true }, kinds := [], alts := [], laidByText := true, laidKinds := [.data, .data, .data, .data, .sentinel, .sentinel, .pinned], laidTests := true, laidLooks := .later }
def OriginOpaqueCardSaid : Prop := Claim7.holds Tryz.pinned (.plain (OpenSpec.ofChange originOpaqueSpec)) originOpaqueCard

/-- THE SECOND FORM's CARD OF 'bastionlaw09.UrlApart'. -/
def urlApartUptoCard : Claim7 := { stood := { row := urlApartUptoRow, standIns := [], harness := (true, "05caea940ce1a81737c888cbce422c1f098a373c9b513b91fb8b24113f136ff6"), looks := true }, kinds := [], alts := [], laidByText := true, laidKinds := [.data, .data, .data, .data, .sentinel, .sentinel, .pinned], laidTests := true, laidLooks := .later }
def UrlApartUptoCardSaid : Prop := Claim7.holds Tryz.pinned (.plain (OpenSpec.upto urlApartSpec)) urlApartUptoCard

/-- THE SECOND FORM's CARD OF 'bastionlaw12.OriginRules'. -/
def originRulesUptoCard : Claim7 := { stood := { row := originRulesUptoRow, standIns := [], harness := (true, "05caea940ce1a81737c888cbce422c1f098a373c9b513b91fb8b24113f136ff6"), looks := true }, kinds := [], alts := [], laidByText := true, laidKinds := [.data, .data, .data, .data, .sentinel, .sentinel, .pinned], laidTests := true, laidLooks := .later }
def OriginRulesUptoCardSaid : Prop := Claim7.holds Tryz.pinned (.plain (OpenSpec.upto originRulesSpec)) originRulesUptoCard

/-- THE SECOND FORM's CARD OF 'bastionlaw12.OriginAlike'. -/
def originAlikeUptoCard : Claim7 := { stood := { row := originAlikeUptoRow, standIns := [], harness := (true, "05caea940ce1a81737c888cbce422c1f098a373c9b513b91fb8b24113f136ff6"), looks := true }, kinds := [], alts := [], laidByText := true, laidKinds := [.data, .data, .data, .data, .sentinel, .sentinel, .pinned], laidTests := true, laidLooks := .later }
def OriginAlikeUptoCardSaid : Prop := Claim7.holds Tryz.pinned (.plain (OpenSpec.upto originAlikeSpec)) originAlikeUptoCard

/-- THE SECOND FORM's CARD OF 'bastionlaw12.OriginOpaque'. -/
def originOpaqueUptoCard : Claim7 := { stood := { row := originOpaqueUptoRow, standIns := [], harness := (true, "05caea940ce1a81737c888cbce422c1f098a373c9b513b91fb8b24113f136ff6"), looks := true }, kinds := [], alts := [], laidByText := true, laidKinds := [.data, .data, .data, .data, .sentinel, .sentinel, .pinned], laidTests := true, laidLooks := .later }
def OriginOpaqueUptoCardSaid : Prop := Claim7.holds Tryz.pinned (.plain (OpenSpec.upto originOpaqueSpec)) originOpaqueUptoCard
end Rows
end Go.Proofs.YtnblehjhpjfilaaGreatDoor
