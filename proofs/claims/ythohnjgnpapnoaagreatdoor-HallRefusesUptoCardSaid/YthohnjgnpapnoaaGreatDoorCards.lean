/-
  DERIVED. GIVEN WITH THE SEED: THE CARDS: each row of YthohnjgnpapnoaaGreatDoorRows.lean that lists a variable, with what it lists TIED to the program's text (the seventh form; the later family's looks); each row that meets fmt, with fmt's text TOLD by the authors' own Lean function (tested against real Go, not proved from fmt's source: count such statements apart). THE CARD IS WHAT COUNTS. Prove the row's statement (the work); the ties are given (YthohnjgnpapnoaaGreatDoorTie.lean); close each card by the builder's one call (the guide's Derived/Test/ToyasCard.lean, 'card_holds'). Laid BY PROGRAM, IN A SANDBOX (cutbox-door.mjs). By AI agents, Wed Nov 11 2026. No macro, syntax, notation, axiom, sorry.
-/
import Derived.Test.YthohnjgnpapnoaaGreatDoorRows
import GoSem.ClaimSeven
namespace Go.Proofs.YthohnjgnpapnoaaGreatDoor
namespace Rows

/-- THE TIED CARD OF 'lifelodgetop.TopOthers'. -/
def topOthersCard : Claim7 := { stood := { row := topOthersRow, standIns := [], harness := (true, "53e05b4e307a4cfe9d2b4c2f881cb8a0c938c52ef1ba771900c620b08dbcf066"), looks := true }, kinds := [], alts := [], laidByText := true, laidKinds := [.data, .data, .data, .data, .sentinel, .sentinel, .pinned], laidTests := true, laidLooks := .later }
def TopOthersCardSaid : Prop := Claim7.holds Tryz.pinned (.plain (OpenSpec.ofChange topOthersSpec)) topOthersCard

/-- THE TIED CARD OF 'lifelodgetop.TopComplete'. -/
def topCompleteCard : Claim7 := { stood := { row := topCompleteRow, standIns := [], harness := (true, "53e05b4e307a4cfe9d2b4c2f881cb8a0c938c52ef1ba771900c620b08dbcf066"), looks := true }, kinds := [], alts := [], laidByText := true, laidKinds := [.data, .data, .data, .data, .sentinel, .sentinel, .pinned], laidTests := true, laidLooks := .later }
def TopCompleteCardSaid : Prop := Claim7.holds Tryz.pinned (.plain (OpenSpec.ofChange topCompleteSpec)) topCompleteCard

/-- THE TIED CARD OF 'lifelodgetop.TopPieces'. -/
def topPiecesCard : Claim7 := { stood := { row := topPiecesRow, standIns := [], harness := (true, "53e05b4e307a4cfe9d2b4c2f881cb8a0c938c52ef1ba771900c620b08dbcf066"), looks := true }, kinds := [], alts := [], laidByText := true, laidKinds := [.data, .data, .data, .data, .sentinel, .sentinel, .pinned], laidTests := true, laidLooks := .later }
def TopPiecesCardSaid : Prop := Claim7.holds Tryz.pinned (.plain (OpenSpec.ofChange topPiecesSpec)) topPiecesCard

/-- THE TIED CARD OF 'lifelodgekeep.HallRefuses'. -/
def hallRefusesCard : Claim7 := { stood := { row := hallRefusesRow, standIns := [], harness := (true, "53e05b4e307a4cfe9d2b4c2f881cb8a0c938c52ef1ba771900c620b08dbcf066"), looks := true }, kinds := [], alts := [], laidByText := true, laidKinds := [.data, .data, .data], laidTests := true, laidLooks := .later }
def HallRefusesCardSaid : Prop := Claim7.holds Tryz.pinned (.plain (OpenSpec.ofChange hallRefusesSpec)) hallRefusesCard

/-- THE TIED CARD OF 'lifelodgekeep.HallRoomy'. -/
def hallRoomyCard : Claim7 := { stood := { row := hallRoomyRow, standIns := [], harness := (true, "53e05b4e307a4cfe9d2b4c2f881cb8a0c938c52ef1ba771900c620b08dbcf066"), looks := true }, kinds := [], alts := [], laidByText := true, laidKinds := [.data, .data, .data], laidTests := true, laidLooks := .later }
def HallRoomyCardSaid : Prop := Claim7.holds Tryz.pinned (.plain (OpenSpec.ofChange hallRoomySpec)) hallRoomyCard

/-- THE TIED CARD OF 'lifelodgekeep.HallLeases'. -/
def hallLeasesCard : Claim7 := { stood := { row := hallLeasesRow, standIns := [], harness := (true, "53e05b4e307a4cfe9d2b4c2f881cb8a0c938c52ef1ba771900c620b08dbcf066"), looks := true }, kinds := [], alts := [], laidByText := true, laidKinds := [.data, .data, .data], laidTests := true, laidLooks := .later }
def HallLeasesCardSaid : Prop := Claim7.holds Tryz.pinned (.plain (OpenSpec.ofChange hallLeasesSpec)) hallLeasesCard

/-- THE TIED CARD OF 'lifelodgetop.TopKeys'. -/
def topKeysCard : Claim7 := { stood := { row := topKeysRow, standIns := [], harness := (true, "53e05b4e307a4cfe9d2b4c2f881cb8a0c938c52ef1ba771900c620b08dbcf066"), looks := true }, kinds := [], alts := [], laidByText := true, laidKinds := [.data, .data, .data, .data, .sentinel, .sentinel, .pinned], laidTests := true, laidLooks := .later }
def TopKeysCardSaid : Prop := Claim7.holds Tryz.pinned (.plain (OpenSpec.ofChange topKeysSpec)) topKeysCard

/-- THE TIED CARD OF 'lifelodgetop.TopFar'. -/
def topFarCard : Claim7 := { stood := { row := topFarRow, standIns := [], harness := (true, "53e05b4e307a4cfe9d2b4c2f881cb8a0c938c52ef1ba771900c620b08dbcf066"), looks := true }, kinds := [], alts := [], laidByText := true, laidKinds := [.data, .data, .data, .data, .sentinel, .sentinel, .pinned], laidTests := true, laidLooks := .later }
def TopFarCardSaid : Prop := Claim7.holds Tryz.pinned (.plain (OpenSpec.ofChange topFarSpec)) topFarCard

/-- THE SECOND FORM's CARD OF 'lifelodgetop.TopOthers'. -/
def topOthersUptoCard : Claim7 := { stood := { row := topOthersUptoRow, standIns := [], harness := (true, "53e05b4e307a4cfe9d2b4c2f881cb8a0c938c52ef1ba771900c620b08dbcf066"), looks := true }, kinds := [], alts := [], laidByText := true, laidKinds := [.data, .data, .data, .data, .sentinel, .sentinel, .pinned], laidTests := true, laidLooks := .later }
def TopOthersUptoCardSaid : Prop := Claim7.holds Tryz.pinned (.plain (OpenSpec.upto topOthersSpec)) topOthersUptoCard

/-- THE SECOND FORM's CARD OF 'lifelodgetop.TopComplete'. -/
def topCompleteUptoCard : Claim7 := { stood := { row := topCompleteUptoRow, standIns := [], harness := (true, "53e05b4e307a4cfe9d2b4c2f881cb8a0c938c52ef1ba771900c620b08dbcf066"), looks := true }, kinds := [], alts := [], laidByText := true, laidKinds := [.data, .data, .data, .data, .sentinel, .sentinel, .pinned], laidTests := true, laidLooks := .later }
def TopCompleteUptoCardSaid : Prop := Claim7.holds Tryz.pinned (.plain (OpenSpec.upto topCompleteSpec)) topCompleteUptoCard

/-- THE SECOND FORM's CARD OF 'lifelodgetop.TopPieces'. -/
def topPiecesUptoCard : Claim7 := { stood := { row := topPiecesUptoRow, standIns := [], harness := (true, "53e05b4e307a4cfe9d2b4c2f881cb8a0c938c52ef1ba771900c620b08dbcf066"), looks := true }, kinds := [], alts := [], laidByText := true, laidKinds := [.data, .data, .data, .data, .sentinel, .sentinel, .pinned], laidTests := true, laidLooks := .later }
def TopPiecesUptoCardSaid : Prop := Claim7.holds Tryz.pinned (.plain (OpenSpec.upto topPiecesSpec)) topPiecesUptoCard

/-- THE SECOND FORM's CARD OF 'lifelodgekeep.HallRefuses'. -/
def hallRefusesUptoCard : Claim7 := { stood := { row := hallRefusesUptoRow, standIns := [], harness := (true, "53e05b4e307a4cfe9d2b4c2f881cb8a0c938c52ef1ba771900c620b08dbcf066"), looks := true }, kinds := [], alts := [], laidByText := true, laidKinds := [.data, .data, .data], laidTests := true, laidLooks := .later }
def HallRefusesUptoCardSaid : Prop := Claim7.holds Tryz.pinned (.plain (OpenSpec.upto hallRefusesSpec)) hallRefusesUptoCard

/-- THE SECOND FORM's CARD OF 'lifelodgekeep.HallRoomy'. -/
def hallRoomyUptoCard : Claim7 := { stood := { row := hallRoomyUptoRow, standIns := [], harness := (true, "53e05b4e307a4cfe9d2b4c2f881cb8a0c938c52ef1ba771900c620b08dbcf066"), looks := true }, kinds := [], alts := [], laidByText := true, laidKinds := [.data, .data, .data], laidTests := true, laidLooks := .later }
def HallRoomyUptoCardSaid : Prop := Claim7.holds Tryz.pinned (.plain (OpenSpec.upto hallRoomySpec)) hallRoomyUptoCard

/-- THE SECOND FORM's CARD OF 'lifelodgekeep.HallLeases'. -/
def hallLeasesUptoCard : Claim7 := { stood := { row := hallLeasesUptoRow, standIns := [], harness := (true, "53e05b4e307a4cfe9d2b4c2f881cb8a0c938c52ef1ba771900c620b08dbcf066"), looks := true }, kinds := [], alts := [], laidByText := true, laidKinds := [.data, .data, .data], laidTests := true, laidLooks := .later }
def HallLeasesUptoCardSaid : Prop := Claim7.holds Tryz.pinned (.plain (OpenSpec.upto hallLeasesSpec)) hallLeasesUptoCard

/-- THE SECOND FORM's CARD OF 'lifelodgetop.TopKeys'. -/
def topKeysUptoCard : Claim7 := { stood := { row := topKeysUptoRow, standIns := [], harness := (true, "53e05b4e307a4cfe9d2b4c2f881cb8a0c938c52ef1ba771900c620b08dbcf066"), looks := true }, kinds := [], alts := [], laidByText := true, laidKinds := [.data, .data, .data, .data, .sentinel, .sentinel, .pinned], laidTests := true, laidLooks := .later }
def TopKeysUptoCardSaid : Prop := Claim7.holds Tryz.pinned (.plain (OpenSpec.upto topKeysSpec)) topKeysUptoCard

/-- THE SECOND FORM's CARD OF 'lifelodgetop.TopFar'. -/
def topFarUptoCard : Claim7 := { stood := { row := topFarUptoRow, standIns := [], harness := (true, "53e05b4e307a4cfe9d2b4c2f881cb8a0c938c52ef1ba771900c620b08dbcf066"), looks := true }, kinds := [], alts := [], laidByText := true, laidKinds := [.data, .data, .data, .data, .sentinel, .sentinel, .pinned], laidTests := true, laidLooks := .later }
def TopFarUptoCardSaid : Prop := Claim7.holds Tryz.pinned (.plain (OpenSpec.upto topFarSpec)) topFarUptoCard
end Rows
end Go.Proofs.YthohnjgnpapnoaaGreatDoor
