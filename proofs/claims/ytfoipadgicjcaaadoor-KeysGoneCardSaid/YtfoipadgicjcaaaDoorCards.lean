/-
  DERIVED. GIVEN WITH THE SEED: THE CARDS: each row of YtfoipadgicjcaaaDoorRows.lean that lists a variable, with what it lists TIED to the program's text (the seventh form; the later family's looks); each row that meets fmt, with fmt's text TOLD by the authors' own Lean function (tested against real Go, not proved from fmt's source: count such statements apart). THE CARD IS WHAT COUNTS. Prove the row's statement (the work); the ties are given (YtfoipadgicjcaaaDoorTie.lean); close each card by the builder's one call (the guide's Derived/Test/ToyasCard.lean, 'card_holds'). Laid BY PROGRAM, IN A SANDBOX (cutbox-door.mjs). By AI agents, Wed Nov 11 2026. No macro, syntax, notation, axiom, sorry.
-/
import Derived.Test.YtfoipadgicjcaaaDoorRows
import GoSem.ClaimSeven
namespace Go.Proofs.YtfoipadgicjcaaaDoor
namespace Rows

/-- THE TIED CARD OF 'lifelodgekeep.KeysGone'. -/
def keysGoneCard : Claim7 := { stood := { row := keysGoneRow, standIns := [], harness := (true, "ac8ab6cadb1f053fd33fe3637761ce77d93e2652a9b83348aaafa7c5d50b1c85"), looks := false }, kinds := [], alts := [], laidByText := true, laidKinds := [.data, .data, .data], laidTests := true, laidLooks := .later }
def KeysGoneCardSaid : Prop := Claim7.holds Tryd.pinned (.plain (OpenSpec.ofChange keysGoneSpec)) keysGoneCard

/-- THE TIED CARD OF 'lifelodgekeep.KeysOpen'. -/
def keysOpenCard : Claim7 := { stood := { row := keysOpenRow, standIns := [], harness := (true, "ac8ab6cadb1f053fd33fe3637761ce77d93e2652a9b83348aaafa7c5d50b1c85"), looks := false }, kinds := [], alts := [], laidByText := true, laidKinds := [.data, .data, .data], laidTests := true, laidLooks := .later }
def KeysOpenCardSaid : Prop := Claim7.holds Tryd.pinned (.plain (OpenSpec.ofChange keysOpenSpec)) keysOpenCard

/-- THE TIED CARD OF 'lifelodgekeep.FramePieces'. -/
def framePiecesCard : Claim7 := { stood := { row := framePiecesRow, standIns := [], harness := (true, "ac8ab6cadb1f053fd33fe3637761ce77d93e2652a9b83348aaafa7c5d50b1c85"), looks := false }, kinds := [], alts := [], laidByText := true, laidKinds := [.data, .pinned], laidTests := true, laidLooks := .later }
def FramePiecesCardSaid : Prop := Claim7.holds Tryd.pinned (.plain (OpenSpec.ofChange framePiecesSpec)) framePiecesCard

/-- THE SECOND FORM's CARD OF 'lifelodgekeep.KeysGone'. -/
def keysGoneUptoCard : Claim7 := { stood := { row := keysGoneUptoRow, standIns := [], harness := (true, "ac8ab6cadb1f053fd33fe3637761ce77d93e2652a9b83348aaafa7c5d50b1c85"), looks := false }, kinds := [], alts := [], laidByText := true, laidKinds := [.data, .data, .data], laidTests := true, laidLooks := .later }
def KeysGoneUptoCardSaid : Prop := Claim7.holds Tryd.pinned (.plain (OpenSpec.upto keysGoneSpec)) keysGoneUptoCard

/-- THE SECOND FORM's CARD OF 'lifelodgekeep.KeysOpen'. -/
def keysOpenUptoCard : Claim7 := { stood := { row := keysOpenUptoRow, standIns := [], harness := (true, "ac8ab6cadb1f053fd33fe3637761ce77d93e2652a9b83348aaafa7c5d50b1c85"), looks := false }, kinds := [], alts := [], laidByText := true, laidKinds := [.data, .data, .data], laidTests := true, laidLooks := .later }
def KeysOpenUptoCardSaid : Prop := Claim7.holds Tryd.pinned (.plain (OpenSpec.upto keysOpenSpec)) keysOpenUptoCard

/-- THE SECOND FORM's CARD OF 'lifelodgekeep.FramePieces'. -/
def framePiecesUptoCard : Claim7 := { stood := { row := framePiecesUptoRow, standIns := [], harness := (true, "ac8ab6cadb1f053fd33fe3637761ce77d93e2652a9b83348aaafa7c5d50b1c85"), looks := false }, kinds := [], alts := [], laidByText := true, laidKinds := [.data, .pinned], laidTests := true, laidLooks := .later }
def FramePiecesUptoCardSaid : Prop := Claim7.holds Tryd.pinned (.plain (OpenSpec.upto framePiecesSpec)) framePiecesUptoCard
end Rows
end Go.Proofs.YtfoipadgicjcaaaDoor
