/-
  DERIVED. GIVEN WITH THE SEED: THE CARDS: each row of YtlldbgekbndohaaDoorRows.lean that lists a variable, with what it lists TIED to the program's text (the seventh form; the later family's looks); each row that meets fmt, with fmt's text TOLD by the authors' own Lean function (tested against real Go, not proved from fmt's source: count such statements apart). THE CARD IS WHAT COUNTS. Prove the row's statement (the work); the ties are given (YtlldbgekbndohaaDoorTie.lean); close each card by the builder's one call (the guide's Derived/Test/ToyasCard.lean, 'card_holds'). Laid BY PROGRAM, IN A SANDBOX (cutbox-door.mjs). By AI agents, Wed Nov 11 2026. No macro, syntax, notation, axiom, sorry.
-/
import Derived.Test.YtlldbgekbndohaaDoorRows
import GoSem.ClaimSeven
namespace Go.Proofs.YtlldbgekbndohaaDoor
namespace Rows

/-- THE TIED CARD OF 'laws.FnExactManyWords'. -/
def fnExactManyWordsCard : Claim7 := { stood := { row := fnExactManyWordsRow, standIns := [], harness := (true, "9b08932bbb2a2ed2a7943fe8c070d3d61a0733febb7ec56f38979a6e059258c7"), looks := false }, kinds := [], alts := [], laidByText := true, laidKinds := [.listed, .data], laidTests := true, laidLooks := .later }
def FnExactManyWordsCardSaid : Prop := Claim7.holds Tryd.pinned (.plain (OpenSpec.ofChange fnExactManyWordsSpec)) fnExactManyWordsCard

/-- THE TIED CARD OF 'laws.FnManyWords'. -/
def fnManyWordsCard : Claim7 := { stood := { row := fnManyWordsRow, standIns := [], harness := (true, "9b08932bbb2a2ed2a7943fe8c070d3d61a0733febb7ec56f38979a6e059258c7"), looks := false }, kinds := [], alts := [], laidByText := true, laidKinds := [.listed, .data], laidTests := true, laidLooks := .later }
def FnManyWordsCardSaid : Prop := Claim7.holds Tryd.pinned (.plain (OpenSpec.ofChange fnManyWordsSpec)) fnManyWordsCard

/-- THE SECOND FORM's CARD OF 'laws.FnExactManyWords'. -/
def fnExactManyWordsUptoCard : Claim7 := { stood := { row := fnExactManyWordsUptoRow, standIns := [], harness := (true, "9b08932bbb2a2ed2a7943fe8c070d3d61a0733febb7ec56f38979a6e059258c7"), looks := false }, kinds := [], alts := [], laidByText := true, laidKinds := [.listed, .data], laidTests := true, laidLooks := .later }
def FnExactManyWordsUptoCardSaid : Prop := Claim7.holds Tryd.pinned (.plain (OpenSpec.upto fnExactManyWordsSpec)) fnExactManyWordsUptoCard

/-- THE SECOND FORM's CARD OF 'laws.FnManyWords'. -/
def fnManyWordsUptoCard : Claim7 := { stood := { row := fnManyWordsUptoRow, standIns := [], harness := (true, "9b08932bbb2a2ed2a7943fe8c070d3d61a0733febb7ec56f38979a6e059258c7"), looks := false }, kinds := [], alts := [], laidByText := true, laidKinds := [.listed, .data], laidTests := true, laidLooks := .later }
def FnManyWordsUptoCardSaid : Prop := Claim7.holds Tryd.pinned (.plain (OpenSpec.upto fnManyWordsSpec)) fnManyWordsUptoCard
end Rows
end Go.Proofs.YtlldbgekbndohaaDoor
