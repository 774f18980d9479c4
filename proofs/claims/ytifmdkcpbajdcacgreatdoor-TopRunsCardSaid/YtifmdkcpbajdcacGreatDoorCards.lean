/-
  DERIVED. GIVEN WITH THE SEED: THE CARDS: each row of YtifmdkcpbajdcacGreatDoorRows.lean that lists a variable, with what it lists TIED to the program's text (the seventh form; the later family's looks); each row that meets fmt, with fmt's text TOLD by the authors' own Lean function (tested against real Go, not proved from fmt's source: count such statements apart). THE CARD IS WHAT COUNTS. Prove the row's statement (the work); the ties are given (YtifmdkcpbajdcacGreatDoorTie.lean); close each card by the builder's one call (the guide's Derived/Test/ToyasCard.lean, 'card_holds'). Laid BY PROGRAM, IN A SANDBOX (cutbox-door.mjs). By AI agents, Wed Nov 11 2026. No macro, syntax, notation, axiom, sorry.
-/
import Derived.Test.YtifmdkcpbajdcacGreatDoorRows
import GoSem.ClaimSeven
namespace Go.Proofs.YtifmdkcpbajdcacGreatDoor
namespace Rows

/-- THE TIED CARD OF 'berthingtop.TopEnds'. -/
def topEndsCard : Claim7 := { stood := { row := topEndsRow, standIns := [], harness := (true, "718fe2b1a4839ecd25dc0dec94b0f00de509a867c450491490e252d5ad7fe906"), looks := true }, kinds := [], alts := [], laidByText := true, laidKinds := [.data, .data, .data, .data, .sentinel, .sentinel, .widerDeep, .data, .pinned], laidTests := true, laidLooks := .later }
def TopEndsCardSaid : Prop := Claim7.holds Tryz.pinned (.plain (OpenSpec.ofChange topEndsSpec)) topEndsCard

/-- THE TIED CARD OF 'berthingtop.TopRuns'. -/
def topRunsCard : Claim7 := { stood := { row := topRunsRow, standIns := [], harness := (true, "718fe2b1a4839ecd25dc0dec94b0f00de509a867c450491490e252d5ad7fe906"), looks := true }, kinds := [], alts := [], laidByText := true, laidKinds := [.data, .data, .data, .data, .sentinel, .sentinel, .widerDeep, .data, .pinned], laidTests := true, laidLooks := .later }
def TopRunsCardSaid : Prop := Claim7.holds Tryz.pinned (.plain (OpenSpec.ofChange topRunsSpec)) topRunsCard

/-- THE TIED CARD OF 'berthingtop.TopPlan'. -/
def topPlanCard : Claim7 := { stood := { row := topPlanRow, standIns := [], harness := (true, "718fe2b1a4839ecd25dc0dec94b0f00de509a867c450491490e252d5ad7fe906"), looks := true }, kinds := [], alts := [], laidByText := true, laidKinds := [.data, .data, .data, .data, .sentinel, .sentinel, .widerDeep, .data, .pinned], laidTests := true, laidLooks := .later }
def TopPlanCardSaid : Prop := Claim7.holds Tryz.pinned (.plain (OpenSpec.ofChange topPlanSpec)) topPlanCard

/-- THE TIED CARD OF 'berthingtop.TopAhead'. -/
def topAheadCard : Claim7 := { stood := { row := topAheadRow, standIns := [], harness := (true, "718fe2b1a4839ecd25dc0dec94b0f00de509a867c450491490e252d5ad7fe906"), looks := true }, kinds := [], alts := [], laidByText := true, laidKinds := [.data, .data, .data, .data, .sentinel, .sentinel, .widerDeep, .data, .pinned], laidTests := true, laidLooks := .later }
def TopAheadCardSaid : Prop := Claim7.holds Tryz.pinned (.plain (OpenSpec.ofChange topAheadSpec)) topAheadCard

/-- THE TIED CARD OF 'berthingtop.TopGuess'. -/
def topGuessCard : Claim7 := { stood := { row := topGuessRow, standIns := [], harness := (true, "718fe2b1a4839ecd25dc0dec94b0f00de509a867c450491490e252d5ad7fe906"), looks := true }, kinds := [], alts := [], laidByText := true, laidKinds := [.data, .data, .data, .data, .sentinel, .sentinel, .widerDeep, .data, .pinned], laidTests := true, laidLooks := .later }
def TopGuessCardSaid : Prop := Claim7.holds Tryz.pinned (.plain (OpenSpec.ofChange topGuessSpec)) topGuessCard

/-- THE TIED CARD OF 'berthingtop.TopKeeps'. -/
def topKeepsCard : Claim7 := { stood := { row := topKeepsRow, standIns := [], harness := (true, "718fe2b1a4839ecd25dc0dec94b0f00de509a867c450491490e252d5ad7fe906"), looks := true }, kinds := [], alts := [], laidByText := true, laidKinds := [.data, .data, .data, .data, .sentinel, .sentinel, .widerDeep, .data, .pinned], laidTests := true, laidLooks := .later }
def TopKeepsCardSaid : Prop := Claim7.holds Tryz.pinned (.plain (OpenSpec.ofChange topKeepsSpec)) topKeepsCard

/-- THE SECOND FORM's CARD OF 'berthingtop.TopEnds'. -/
def topEndsUptoCard : Claim7 := { stood := { row := topEndsUptoRow, standIns := [], harness := (true, "718fe2b1a4839ecd25dc0dec94b0f00de509a867c450491490e252d5ad7fe906"), looks := true }, kinds := [], alts := [], laidByText := true, laidKinds := [.data, .data, .data, .data, .sentinel, .sentinel, .widerDeep, .data, .pinned], laidTests := true, laidLooks := .later }
def TopEndsUptoCardSaid : Prop := Claim7.holds Tryz.pinned (.plain (OpenSpec.upto topEndsSpec)) topEndsUptoCard

/-- THE SECOND FORM's CARD OF 'berthingtop.TopRuns'. -/
def topRunsUptoCard : Claim7 := { stood := { row := topRunsUptoRow, standIns := [], harness := (true, "718fe2b1a4839ecd25dc0dec94b0f00de509a867c450491490e252d5ad7fe906"), looks := true }, kinds := [], alts := [], laidByText := true, laidKinds := [.data, .data, .data, .data, .sentinel, .sentinel, .widerDeep, .data, .pinned], laidTests := true, laidLooks := .later }
def TopRunsUptoCardSaid : Prop := Claim7.holds Tryz.pinned (.plain (OpenSpec.upto topRunsSpec)) topRunsUptoCard

/-- THE SECOND FORM's CARD OF 'berthingtop.TopPlan'. -/
def topPlanUptoCard : Claim7 := { stood := { row := topPlanUptoRow, standIns := [], harness := (true, "718fe2b1a4839ecd25dc0dec94b0f00de509a867c450491490e252d5ad7fe906"), looks := true }, kinds := [], alts := [], laidByText := true, laidKinds := [.data, .data, .data, .data, .sentinel, .sentinel, .widerDeep, .data, .pinned], laidTests := true, laidLooks := .later }
def TopPlanUptoCardSaid : Prop := Claim7.holds Tryz.pinned (.plain (OpenSpec.upto topPlanSpec)) topPlanUptoCard

/-- THE SECOND FORM's CARD OF 'berthingtop.TopAhead'. -/
def topAheadUptoCard : Claim7 := { stood := { row := topAheadUptoRow, standIns := [], harness := (true, "718fe2b1a4839ecd25dc0dec94b0f00de509a867c450491490e252d5ad7fe906"), looks := true }, kinds := [], alts := [], laidByText := true, laidKinds := [.data, .data, .data, .data, .sentinel, .sentinel, .widerDeep, .data, .pinned], laidTests := true, laidLooks := .later }
def TopAheadUptoCardSaid : Prop := Claim7.holds Tryz.pinned (.plain (OpenSpec.upto topAheadSpec)) topAheadUptoCard

/-- THE SECOND FORM's CARD OF 'berthingtop.TopGuess'. -/
def topGuessUptoCard : Claim7 := { stood := { row := topGuessUptoRow, standIns := [], harness := (true, "718fe2b1a4839ecd25dc0dec94b0f00de509a867c450491490e252d5ad7fe906"), looks := true }, kinds := [], alts := [], laidByText := true, laidKinds := [.data, .data, .data, .data, .sentinel, .sentinel, .widerDeep, .data, .pinned], laidTests := true, laidLooks := .later }
def TopGuessUptoCardSaid : Prop := Claim7.holds Tryz.pinned (.plain (OpenSpec.upto topGuessSpec)) topGuessUptoCard

/-- THE SECOND FORM's CARD OF 'berthingtop.TopKeeps'. -/
def topKeepsUptoCard : Claim7 := { stood := { row := topKeepsUptoRow, standIns := [], harness := (true, "718fe2b1a4839ecd25dc0dec94b0f00de509a867c450491490e252d5ad7fe906"), looks := true }, kinds := [], alts := [], laidByText := true, laidKinds := [.data, .data, .data, .data, .sentinel, .sentinel, .widerDeep, .data, .pinned], laidTests := true, laidLooks := .later }
def TopKeepsUptoCardSaid : Prop := Claim7.holds Tryz.pinned (.plain (OpenSpec.upto topKeepsSpec)) topKeepsUptoCard
end Rows
end Go.Proofs.YtifmdkcpbajdcacGreatDoor
