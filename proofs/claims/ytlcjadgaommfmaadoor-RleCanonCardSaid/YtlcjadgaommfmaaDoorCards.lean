/-
  DERIVED. GIVEN WITH THE SEED: THE CARDS: each row of YtlcjadgaommfmaaDoorRows.lean that lists a variable, with what it lists TIED to the program's text (the seventh form; the later family's looks); each row that meets fmt, with fmt's text TOLD by the authors' own Lean function (tested against real Go, not proved from fmt's source: count such statements apart). THE CARD IS WHAT COUNTS. Prove the row's statement (the work); the ties are given (YtlcjadgaommfmaaDoorTie.lean); close each card by the builder's one call (the guide's Derived/Test/ToyasCard.lean, 'card_holds'). Laid BY PROGRAM, IN A SANDBOX (cutbox-door.mjs). By AI agents, Wed Nov 11 2026. No macro, syntax, notation, axiom, sorry.
-/
import Derived.Test.YtlcjadgaommfmaaDoorRows
import GoSem.ClaimSeven
namespace Go.Proofs.YtlcjadgaommfmaaDoor
namespace Rows

/-- THE TIED CARD OF 'lifelodgekeep.RleCanon'. -/
def rleCanonCard : Claim7 := { stood := { row := rleCanonRow, standIns := [], harness := (true, "27fe991d7ef39e688e483dac4034e163b0768dd28c8b2d843f92258ede08ebb1"), looks := false }, kinds := [], alts := [], laidByText := true, laidKinds := [.data, .data, .data], laidTests := true, laidLooks := .later }
def RleCanonCardSaid : Prop := Claim7.holds Tryd.pinned (.plain (OpenSpec.ofChange rleCanonSpec)) rleCanonCard

/-- THE TIED CARD OF 'lifelodgekeep.RleLines'. -/
def rleLinesCard : Claim7 := { stood := { row := rleLinesRow, standIns := [], harness := (true, "27fe991d7ef39e688e483dac4034e163b0768dd28c8b2d843f92258ede08ebb1"), looks := false }, kinds := [], alts := [], laidByText := true, laidKinds := [.data, .data, .data], laidTests := true, laidLooks := .later }
def RleLinesCardSaid : Prop := Claim7.holds Tryd.pinned (.plain (OpenSpec.ofChange rleLinesSpec)) rleLinesCard

/-- THE TIED CARD OF 'lifelodgekeep.RleBack'. -/
def rleBackCard : Claim7 := { stood := { row := rleBackRow, standIns := [], harness := (true, "27fe991d7ef39e688e483dac4034e163b0768dd28c8b2d843f92258ede08ebb1"), looks := false }, kinds := [], alts := [], laidByText := true, laidKinds := [.data, .data, .data], laidTests := true, laidLooks := .later }
def RleBackCardSaid : Prop := Claim7.holds Tryd.pinned (.plain (OpenSpec.ofChange rleBackSpec)) rleBackCard

/-- THE SECOND FORM's CARD OF 'lifelodgekeep.RleCanon'. -/
def rleCanonUptoCard : Claim7 := { stood := { row := rleCanonUptoRow, standIns := [], harness := (true, "27fe991d7ef39e688e483dac4034e163b0768dd28c8b2d843f92258ede08ebb1"), looks := false }, kinds := [], alts := [], laidByText := true, laidKinds := [.data, .data, .data], laidTests := true, laidLooks := .later }
def RleCanonUptoCardSaid : Prop := Claim7.holds Tryd.pinned (.plain (OpenSpec.upto rleCanonSpec)) rleCanonUptoCard

/-- THE SECOND FORM's CARD OF 'lifelodgekeep.RleLines'. -/
def rleLinesUptoCard : Claim7 := { stood := { row := rleLinesUptoRow, standIns := [], harness := (true, "27fe991d7ef39e688e483dac4034e163b0768dd28c8b2d843f92258ede08ebb1"), looks := false }, kinds := [], alts := [], laidByText := true, laidKinds := [.data, .data, .data], laidTests := true, laidLooks := .later }
def RleLinesUptoCardSaid : Prop := Claim7.holds Tryd.pinned (.plain (OpenSpec.upto rleLinesSpec)) rleLinesUptoCard

/-- THE SECOND FORM's CARD OF 'lifelodgekeep.RleBack'. -/
def rleBackUptoCard : Claim7 := { stood := { row := rleBackUptoRow, standIns := [], harness := (true, "27fe991d7ef39e688e483dac4034e163b0768dd28c8b2d843f92258ede08ebb1"), looks := false }, kinds := [], alts := [], laidByText := true, laidKinds := [.data, .data, .data], laidTests := true, laidLooks := .later }
def RleBackUptoCardSaid : Prop := Claim7.holds Tryd.pinned (.plain (OpenSpec.upto rleBackSpec)) rleBackUptoCard
end Rows
end Go.Proofs.YtlcjadgaommfmaaDoor
