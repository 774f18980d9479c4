/-
  DERIVED. GIVEN WITH THE SEED: THE CARDS: each row of YtifmdkcpbajdcaaGreatDoorRows.lean that lists a variable, with what it lists TIED to the program's text (the seventh form; the later family's looks); each row that meets fmt, with fmt's text TOLD by the authors' own Lean function (tested against real Go, not proved from fmt's source: count such statements apart). THE CARD IS WHAT COUNTS. Prove the row's statement (the work); the ties are given (YtifmdkcpbajdcaaGreatDoorTie.lean); close each card by the builder's one call (the guide's Derived/Test/ToyasCard.lean, 'card_holds'). Laid BY PROGRAM, IN A SANDBOX (cutbox-door.mjs). By AI agents, Wed Nov 11 2026. No macro, syntax, notation, axiom, sorry.
-/
import Derived.Test.YtifmdkcpbajdcaaGreatDoorRows
import GoSem.ClaimSeven
namespace Go.Proofs.YtifmdkcpbajdcaaGreatDoor
namespace Rows

/-- THE TIED CARD OF 'berthingtop.TopRoom'. -/
def topRoomCard : Claim7 := { stood := { row := topRoomRow, standIns := [], harness := (true, "6751cbb5c3f1bf359fbbf690d18d073e33bf821a7d7e82676f3acf50a5692a36"), looks := true }, kinds := [], alts := [], laidByText := true, laidKinds := [.data, .data, .data, .data, .sentinel, .sentinel, .widerDeep, .data, .pinned], laidTests := true, laidLooks := .later }
def TopRoomCardSaid : Prop := Claim7.holds Tryz.pinned (.plain (OpenSpec.ofChange topRoomSpec)) topRoomCard

/-- THE TIED CARD OF 'berthingtop.TopStarts'. -/
def topStartsCard : Claim7 := { stood := { row := topStartsRow, standIns := [], harness := (true, "6751cbb5c3f1bf359fbbf690d18d073e33bf821a7d7e82676f3acf50a5692a36"), looks := true }, kinds := [], alts := [], laidByText := true, laidKinds := [.data, .data, .data, .data, .sentinel, .sentinel, .widerDeep, .data, .pinned], laidTests := true, laidLooks := .later }
def TopStartsCardSaid : Prop := Claim7.holds Tryz.pinned (.plain (OpenSpec.ofChange topStartsSpec)) topStartsCard

/-- THE SECOND FORM's CARD OF 'berthingtop.TopRoom'. -/
def topRoomUptoCard : Claim7 := { stood := { row := topRoomUptoRow, standIns := [], harness := (true, "6751cbb5c3f1bf359fbbf690d18d073e33bf821a7d7e82676f3acf50a5692a36"), looks := true }, kinds := [], alts := [], laidByText := true, laidKinds := [.data, .data, .data, .data, .sentinel, .sentinel, .widerDeep, .data, .pinned], laidTests := true, laidLooks := .later }
def TopRoomUptoCardSaid : Prop := Claim7.holds Tryz.pinned (.plain (OpenSpec.upto topRoomSpec)) topRoomUptoCard

/-- THE SECOND FORM's CARD OF 'berthingtop.TopStarts'. -/
def topStartsUptoCard : Claim7 := { stood := { row := topStartsUptoRow, standIns := [], harness := (true, "6751cbb5c3f1bf359fbbf690d18d073e33bf821a7d7e82676f3acf50a5692a36"), looks := true }, kinds := [], alts := [], laidByText := true, laidKinds := [.data, .data, .data, .data, .sentinel, .sentinel, .widerDeep, .data, .pinned], laidTests := true, laidLooks := .later }
def TopStartsUptoCardSaid : Prop := Claim7.holds Tryz.pinned (.plain (OpenSpec.upto topStartsSpec)) topStartsUptoCard
end Rows
end Go.Proofs.YtifmdkcpbajdcaaGreatDoor
