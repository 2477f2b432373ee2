/-
  DERIVED. GIVEN WITH THE SEED: THE CARDS: each row of YtfbjmhipjfjaeaaGreatDoorRows.lean that lists a variable, with what it lists TIED to the program's text (the seventh form; the later family's looks); each row that meets fmt, with fmt's text TOLD by the authors' own Lean function (tested against real Go, not proved from fmt's source: count such statements apart). THE CARD IS WHAT COUNTS. Prove the row's statement (the work); the ties are given (YtfbjmhipjfjaeaaGreatDoorTie.lean); close each card by the builder's one call (the guide's Derived/Test/ToyasCard.lean, 'card_holds'). Laid BY PROGRAM, IN A SANDBOX (cutbox-door.mjs). By AI agents, Wed Nov 11 2026. No macro, syntax, notation, axiom, sorry.
-/
import Derived.Test.YtfbjmhipjfjaeaaGreatDoorRows
import GoSem.ClaimSeven
namespace Go.Proofs.YtfbjmhipjfjaeaaGreatDoor
namespace Rows

/-- THE TIED CARD OF 'covenantlaw26.AofNobody'. -/
def aofNobodyCard : Claim7 := { stood := { row := aofNobodyRow, standIns := [], harness := (true, "87682fb50e5db085b548915a0443dc920cdab0cf88cc36506fa79d4ba87d6d17"), looks := true }, kinds := [], alts := [], laidByText := true, laidKinds := [.handle, .sentinel, .sentinel], laidTests := true, laidLooks := .later }
def AofNobodyCardSaid : Prop := Claim7.holds Tryz.pinned (.plain (OpenSpec.ofChange aofNobodySpec)) aofNobodyCard

/-- THE TIED CARD OF 'covenantlaw26.AofTorn'. -/
def aofTornCard : Claim7 := { stood := { row := aofTornRow, standIns := [], harness := (true, "87682fb50e5db085b548915a0443dc920cdab0cf88cc36506fa79d4ba87d6d17"), looks := true }, kinds := [], alts := [], laidByText := true, laidKinds := [.handle, .sentinel, .sentinel], laidTests := true, laidLooks := .later }
def AofTornCardSaid : Prop := Claim7.holds Tryz.pinned (.plain (OpenSpec.ofChange aofTornSpec)) aofTornCard

/-- THE TIED CARD OF 'covenantlaw26.AofTwice'. -/
def aofTwiceCard : Claim7 := { stood := { row := aofTwiceRow, standIns := [], harness := (true, "87682fb50e5db085b548915a0443dc920cdab0cf88cc36506fa79d4ba87d6d17"), looks := true }, kinds := [], alts := [], laidByText := true, laidKinds := [.handle, .sentinel, .sentinel], laidTests := true, laidLooks := .later }
def AofTwiceCardSaid : Prop := Claim7.holds Tryz.pinned (.plain (OpenSpec.ofChange aofTwiceSpec)) aofTwiceCard

/-- THE TIED CARD OF 'covenantlaw26.AofFinds'. -/
def aofFindsCard : Claim7 := { stood := { row := aofFindsRow, standIns := [], harness := (true, "87682fb50e5db085b548915a0443dc920cdab0cf88cc36506fa79d4ba87d6d17"), looks := true }, kinds := [], alts := [], laidByText := true, laidKinds := [.handle, .sentinel, .sentinel], laidTests := true, laidLooks := .later }
def AofFindsCardSaid : Prop := Claim7.holds Tryz.pinned (.plain (OpenSpec.ofChange aofFindsSpec)) aofFindsCard

/-- THE SECOND FORM's CARD OF 'covenantlaw26.AofNobody'. -/
def aofNobodyUptoCard : Claim7 := { stood := { row := aofNobodyUptoRow, standIns := [], harness := (true, "87682fb50e5db085b548915a0443dc920cdab0cf88cc36506fa79d4ba87d6d17"), looks := true }, kinds := [], alts := [], laidByText := true, laidKinds := [.handle, .sentinel, .sentinel], laidTests := true, laidLooks := .later }
def AofNobodyUptoCardSaid : Prop := Claim7.holds Tryz.pinned (.plain (OpenSpec.upto aofNobodySpec)) aofNobodyUptoCard

/-- THE SECOND FORM's CARD OF 'covenantlaw26.AofTorn'. -/
def aofTornUptoCard : Claim7 := { stood := { row := aofTornUptoRow, standIns := [], harness := (true, "87682fb50e5db085b548915a0443dc920cdab0cf88cc36506fa79d4ba87d6d17"), looks := true }, kinds := [], alts := [], laidByText := true, laidKinds := [.handle, .sentinel, .sentinel], laidTests := true, laidLooks := .later }
def AofTornUptoCardSaid : Prop := Claim7.holds Tryz.pinned (.plain (OpenSpec.upto aofTornSpec)) aofTornUptoCard

/-- THE SECOND FORM's CARD OF 'covenantlaw26.AofTwice'. -/
def aofTwiceUptoCard : Claim7 := { stood := { row := aofTwiceUptoRow, standIns := [], harness := (true, "87682fb50e5db085b548915a0443dc920cdab0cf88cc36506fa79d4ba87d6d17"), looks := true }, kinds := [], alts := [], laidByText := true, laidKinds := [.handle, .sentinel, .sentinel], laidTests := true, laidLooks := .later }
def AofTwiceUptoCardSaid : Prop := Claim7.holds Tryz.pinned (.plain (OpenSpec.upto aofTwiceSpec)) aofTwiceUptoCard

/-- THE SECOND FORM's CARD OF 'covenantlaw26.AofFinds'. -/
def aofFindsUptoCard : Claim7 := { stood := { row := aofFindsUptoRow, standIns := [], harness := (true, "87682fb50e5db085b548915a0443dc920cdab0cf88cc36506fa79d4ba87d6d17"), looks := true }, kinds := [], alts := [], laidByText := true, laidKinds := [.handle, .sentinel, .sentinel], laidTests := true, laidLooks := .later }
def AofFindsUptoCardSaid : Prop := Claim7.holds Tryz.pinned (.plain (OpenSpec.upto aofFindsSpec)) aofFindsUptoCard
end Rows
end Go.Proofs.YtfbjmhipjfjaeaaGreatDoor
