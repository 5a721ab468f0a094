/-
  DERIVED. GIVEN WITH THE SEED: THE CARDS: each row of YtkandepkojfblaaDoorRows.lean that lists a variable, with what it lists TIED to the program's text (the seventh form; the later family's looks); each row that meets fmt, with fmt's text TOLD by the authors' own Lean function (tested against real Go, not proved from fmt's source: count such statements apart). THE CARD IS WHAT COUNTS. Prove the row's statement (the work); the ties are given (YtkandepkojfblaaDoorTie.lean); close each card by the builder's one call (the guide's Derived/Test/ToyasCard.lean, 'card_holds'). Laid BY PROGRAM, IN A SANDBOX (cutbox-door.mjs). By AI agents, Wed Nov 11 2026. No macro, syntax, notation, axiom, sorry.
-/
import Derived.Test.YtkandepkojfblaaDoorRows
import GoSem.ClaimSeven
namespace Go.Proofs.YtkandepkojfblaaDoor
namespace Rows

/-- THE TIED CARD OF 'lifelodgekeep.FrameBack'. -/
def frameBackCard : Claim7 := { stood := { row := frameBackRow, standIns := [], harness := (true, "117d75b549ff40f338dd9fbdfea56b4172a48a793c57605eac0cafce0ab43c5d"), looks := true }, kinds := [], alts := [], laidByText := true, laidKinds := [.data, .pinned], laidTests := true, laidLooks := .later }
def FrameBackCardSaid : Prop := Claim7.holds Tryd.pinned (.plain (OpenSpec.ofChange frameBackSpec)) frameBackCard

/-- THE TIED CARD OF 'lifelodgekeep.FrameOnly'. -/
def frameOnlyCard : Claim7 := { stood := { row := frameOnlyRow, standIns := [], harness := (true, "117d75b549ff40f338dd9fbdfea56b4172a48a793c57605eac0cafce0ab43c5d"), looks := true }, kinds := [], alts := [], laidByText := true, laidKinds := [.data, .pinned], laidTests := true, laidLooks := .later }
def FrameOnlyCardSaid : Prop := Claim7.holds Tryd.pinned (.plain (OpenSpec.ofChange frameOnlySpec)) frameOnlyCard

/-- THE TIED CARD OF 'lifelodgekeep.SpeechBack'. -/
def speechBackCard : Claim7 := { stood := { row := speechBackRow, standIns := [], harness := (true, "117d75b549ff40f338dd9fbdfea56b4172a48a793c57605eac0cafce0ab43c5d"), looks := true }, kinds := [], alts := [], laidByText := true, laidKinds := [.data, .data, .data, .data, .sentinel, .sentinel, .data, .pinned], laidTests := true, laidLooks := .later }
def SpeechBackCardSaid : Prop := Claim7.holds Tryd.pinned (.plain (OpenSpec.ofChange speechBackSpec)) speechBackCard

/-- THE TIED CARD OF 'lifelodgekeep.SpeechOnly'. -/
def speechOnlyCard : Claim7 := { stood := { row := speechOnlyRow, standIns := [], harness := (true, "117d75b549ff40f338dd9fbdfea56b4172a48a793c57605eac0cafce0ab43c5d"), looks := true }, kinds := [], alts := [], laidByText := true, laidKinds := [.data, .data, .data, .data, .sentinel, .sentinel, .data, .pinned], laidTests := true, laidLooks := .later }
def SpeechOnlyCardSaid : Prop := Claim7.holds Tryd.pinned (.plain (OpenSpec.ofChange speechOnlySpec)) speechOnlyCard

/-- THE SECOND FORM's CARD OF 'lifelodgekeep.FrameBack'. -/
def frameBackUptoCard : Claim7 := { stood := { row := frameBackUptoRow, standIns := [], harness := (true, "117d75b549ff40f338dd9fbdfea56b4172a48a793c57605eac0cafce0ab43c5d"), looks := true }, kinds := [], alts := [], laidByText := true, laidKinds := [.data, .pinned], laidTests := true, laidLooks := .later }
def FrameBackUptoCardSaid : Prop := Claim7.holds Tryd.pinned (.plain (OpenSpec.upto frameBackSpec)) frameBackUptoCard

/-- THE SECOND FORM's CARD OF 'lifelodgekeep.FrameOnly'. -/
def frameOnlyUptoCard : Claim7 := { stood := { row := frameOnlyUptoRow, standIns := [], harness := (true, "117d75b549ff40f338dd9fbdfea56b4172a48a793c57605eac0cafce0ab43c5d"), looks := true }, kinds := [], alts := [], laidByText := true, laidKinds := [.data, .pinned], laidTests := true, laidLooks := .later }
def FrameOnlyUptoCardSaid : Prop := Claim7.holds Tryd.pinned (.plain (OpenSpec.upto frameOnlySpec)) frameOnlyUptoCard

/-- THE SECOND FORM's CARD OF 'lifelodgekeep.SpeechBack'. -/
def speechBackUptoCard : Claim7 := { stood := { row := speechBackUptoRow, standIns := [], harness := (true, "117d75b549ff40f338dd9fbdfea56b4172a48a793c57605eac0cafce0ab43c5d"), looks := true }, kinds := [], alts := [], laidByText := true, laidKinds := [.data, .data, .data, .data, .sentinel, .sentinel, .data, .pinned], laidTests := true, laidLooks := .later }
def SpeechBackUptoCardSaid : Prop := Claim7.holds Tryd.pinned (.plain (OpenSpec.upto speechBackSpec)) speechBackUptoCard

/-- THE SECOND FORM's CARD OF 'lifelodgekeep.SpeechOnly'. -/
def speechOnlyUptoCard : Claim7 := { stood := { row := speechOnlyUptoRow, standIns := [], harness := (true, "117d75b549ff40f338dd9fbdfea56b4172a48a793c57605eac0cafce0ab43c5d"), looks := true }, kinds := [], alts := [], laidByText := true, laidKinds := [.data, .data, .data, .data, .sentinel, .sentinel, .data, .pinned], laidTests := true, laidLooks := .later }
def SpeechOnlyUptoCardSaid : Prop := Claim7.holds Tryd.pinned (.plain (OpenSpec.upto speechOnlySpec)) speechOnlyUptoCard
end Rows
end Go.Proofs.YtkandepkojfblaaDoor
