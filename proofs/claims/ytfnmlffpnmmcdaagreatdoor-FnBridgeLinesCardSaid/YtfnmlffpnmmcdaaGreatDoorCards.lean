/-
  DERIVED. GIVEN WITH THE SEED: THE CARDS: each row of YtfnmlffpnmmcdaaGreatDoorRows.lean that lists a variable, with what it lists TIED to the program's text (the seventh form; the later family's looks); each row that meets fmt, with fmt's text TOLD by the authors' own Lean function (tested against real Go, not proved from fmt's source: count such statements apart). THE CARD IS WHAT COUNTS. Prove the row's statement (the work); the ties are given (YtfnmlffpnmmcdaaGreatDoorTie.lean); close each card by the builder's one call (the guide's Derived/Test/ToyasCard.lean, 'card_holds'). Laid BY PROGRAM, IN A SANDBOX (cutbox-door.mjs). By AI agents, Wed Nov 11 2026. No macro, syntax, notation, axiom, sorry.
-/
import Derived.Test.YtfnmlffpnmmcdaaGreatDoorRows
import GoSem.ClaimSeven
namespace Go.Proofs.YtfnmlffpnmmcdaaGreatDoor
namespace Rows

/-- THE TIED CARD OF 'laws.FnExactBridgeLine'. -/
def fnExactBridgeLineCard : Claim7 := { stood := { row := fnExactBridgeLineRow, standIns := [], harness := (true, "1599bd9ed144457b2866f17b1372c2f350fa0fdfbe7943b84e9cf6506e04790b"), looks := false }, kinds := [], alts := [], laidByText := true, laidKinds := [.data, .data], laidTests := true, laidLooks := .later }
def FnExactBridgeLineCardSaid : Prop := Claim7.holds Tryz.pinned (.plain (OpenSpec.ofChange fnExactBridgeLineSpec)) fnExactBridgeLineCard

/-- THE TIED CARD OF 'laws.FnBridgeLine'. -/
def fnBridgeLineCard : Claim7 := { stood := { row := fnBridgeLineRow, standIns := [], harness := (true, "1599bd9ed144457b2866f17b1372c2f350fa0fdfbe7943b84e9cf6506e04790b"), looks := false }, kinds := [], alts := [], laidByText := true, laidKinds := [.data, .data, .data, .pinned], laidTests := true, laidLooks := .later }
def FnBridgeLineCardSaid : Prop := Claim7.holds Tryz.pinned (.plain (OpenSpec.ofChange fnBridgeLineSpec)) fnBridgeLineCard

/-- THE TIED CARD OF 'laws.FnExactBridgeLines'. -/
def fnExactBridgeLinesCard : Claim7 := { stood := { row := fnExactBridgeLinesRow, standIns := [], harness := (true, "1599bd9ed144457b2866f17b1372c2f350fa0fdfbe7943b84e9cf6506e04790b"), looks := false }, kinds := [], alts := [], laidByText := true, laidKinds := [.data, .data], laidTests := true, laidLooks := .later }
def FnExactBridgeLinesCardSaid : Prop := Claim7.holds Tryz.pinned (.plain (OpenSpec.ofChange fnExactBridgeLinesSpec)) fnExactBridgeLinesCard

/-- THE TIED CARD OF 'laws.FnBridgeLines'. -/
def fnBridgeLinesCard : Claim7 := { stood := { row := fnBridgeLinesRow, standIns := [], harness := (true, "1599bd9ed144457b2866f17b1372c2f350fa0fdfbe7943b84e9cf6506e04790b"), looks := false }, kinds := [], alts := [], laidByText := true, laidKinds := [.data, .data], laidTests := true, laidLooks := .later }
def FnBridgeLinesCardSaid : Prop := Claim7.holds Tryz.pinned (.plain (OpenSpec.ofChange fnBridgeLinesSpec)) fnBridgeLinesCard

/-- THE SECOND FORM's CARD OF 'laws.FnExactBridgeLine'. -/
def fnExactBridgeLineUptoCard : Claim7 := { stood := { row := fnExactBridgeLineUptoRow, standIns := [], harness := (true, "1599bd9ed144457b2866f17b1372c2f350fa0fdfbe7943b84e9cf6506e04790b"), looks := false }, kinds := [], alts := [], laidByText := true, laidKinds := [.data, .data], laidTests := true, laidLooks := .later }
def FnExactBridgeLineUptoCardSaid : Prop := Claim7.holds Tryz.pinned (.plain (OpenSpec.upto fnExactBridgeLineSpec)) fnExactBridgeLineUptoCard

/-- THE SECOND FORM's CARD OF 'laws.FnBridgeLine'. -/
def fnBridgeLineUptoCard : Claim7 := { stood := { row := fnBridgeLineUptoRow, standIns := [], harness := (true, "1599bd9ed144457b2866f17b1372c2f350fa0fdfbe7943b84e9cf6506e04790b"), looks := false }, kinds := [], alts := [], laidByText := true, laidKinds := [.data, .data, .data, .pinned], laidTests := true, laidLooks := .later }
def FnBridgeLineUptoCardSaid : Prop := Claim7.holds Tryz.pinned (.plain (OpenSpec.upto fnBridgeLineSpec)) fnBridgeLineUptoCard

/-- THE SECOND FORM's CARD OF 'laws.FnExactBridgeLines'. -/
def fnExactBridgeLinesUptoCard : Claim7 := { stood := { row := fnExactBridgeLinesUptoRow, standIns := [], harness := (true, "1599bd9ed144457b2866f17b1372c2f350fa0fdfbe7943b84e9cf6506e04790b"), looks := false }, kinds := [], alts := [], laidByText := true, laidKinds := [.data, .data], laidTests := true, laidLooks := .later }
def FnExactBridgeLinesUptoCardSaid : Prop := Claim7.holds Tryz.pinned (.plain (OpenSpec.upto fnExactBridgeLinesSpec)) fnExactBridgeLinesUptoCard

/-- THE SECOND FORM's CARD OF 'laws.FnBridgeLines'. -/
def fnBridgeLinesUptoCard : Claim7 := { stood := { row := fnBridgeLinesUptoRow, standIns := [], harness := (true, "1599bd9ed144457b2866f17b1372c2f350fa0fdfbe7943b84e9cf6506e04790b"), looks := false }, kinds := [], alts := [], laidByText := true, laidKinds := [.data, .data], laidTests := true, laidLooks := .later }
def FnBridgeLinesUptoCardSaid : Prop := Claim7.holds Tryz.pinned (.plain (OpenSpec.upto fnBridgeLinesSpec)) fnBridgeLinesUptoCard
end Rows
end Go.Proofs.YtfnmlffpnmmcdaaGreatDoor
