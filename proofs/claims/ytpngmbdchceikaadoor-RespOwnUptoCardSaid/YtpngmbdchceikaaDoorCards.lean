/-
  DERIVED. GIVEN WITH THE SEED: THE CARDS: each row of YtpngmbdchceikaaDoorRows.lean that lists a variable, with what it lists TIED to the program's text (the seventh form; the later family's looks); each row that meets fmt, with fmt's text TOLD by the authors' own Lean function (tested against real Go, not proved from fmt's source: count such statements apart). THE CARD IS WHAT COUNTS. Prove the row's statement (the work); the ties are given (YtpngmbdchceikaaDoorTie.lean); close each card by the builder's one call (the guide's Derived/Test/ToyasCard.lean, 'card_holds'). Laid BY PROGRAM, IN A SANDBOX (cutbox-door.mjs). By AI agents, Wed Nov 11 2026. No macro, syntax, notation, axiom, sorry.
-/
import Derived.Test.YtpngmbdchceikaaDoorRows
import GoSem.ClaimSeven
namespace Go.Proofs.YtpngmbdchceikaaDoor
namespace Rows

/-- THE TIED CARD OF 'covenantlaw03.RespShows'. -/
def respShowsCard : Claim7 := { stood := { row := respShowsRow, standIns := [], harness := (true, "c79242f1b10d20067aae86a9832f4e8bc742cccc014952a701979c3f923995e5"), looks := true }, kinds := [], alts := [], laidByText := true, laidKinds := [.data, .data, .data], laidTests := true, laidLooks := .later }
def RespShowsCardSaid : Prop := Claim7.holds Tryd.pinned (.plain (OpenSpec.ofChange respShowsSpec)) respShowsCard

/-- THE TIED CARD OF 'covenantlaw03.RespEncodes'. -/
def respEncodesCard : Claim7 := { stood := { row := respEncodesRow, standIns := [], harness := (true, "c79242f1b10d20067aae86a9832f4e8bc742cccc014952a701979c3f923995e5"), looks := true }, kinds := [], alts := [], laidByText := true, laidKinds := [.data, .data, .data, .sentinel, .sentinel], laidTests := true, laidLooks := .later }
def RespEncodesCardSaid : Prop := Claim7.holds Tryd.pinned (.plain (OpenSpec.ofChange respEncodesSpec)) respEncodesCard

/-- THE TIED CARD OF 'covenantlaw03.RespDecodes'. -/
def respDecodesCard : Claim7 := { stood := { row := respDecodesRow, standIns := [], harness := (true, "c79242f1b10d20067aae86a9832f4e8bc742cccc014952a701979c3f923995e5"), looks := true }, kinds := [], alts := [], laidByText := true, laidKinds := [.data, .data, .data, .sentinel, .sentinel], laidTests := true, laidLooks := .later }
def RespDecodesCardSaid : Prop := Claim7.holds Tryd.pinned (.plain (OpenSpec.ofChange respDecodesSpec)) respDecodesCard

/-- THE TIED CARD OF 'covenantlaw03.RespBack'. -/
def respBackCard : Claim7 := { stood := { row := respBackRow, standIns := [], harness := (true, "c79242f1b10d20067aae86a9832f4e8bc742cccc014952a701979c3f923995e5"), looks := true }, kinds := [], alts := [], laidByText := true, laidKinds := [.data, .data, .data, .sentinel, .sentinel], laidTests := true, laidLooks := .later }
def RespBackCardSaid : Prop := Claim7.holds Tryd.pinned (.plain (OpenSpec.ofChange respBackSpec)) respBackCard

/-- THE TIED CARD OF 'covenantlaw03.RespFeeds'. -/
def respFeedsCard : Claim7 := { stood := { row := respFeedsRow, standIns := [], harness := (true, "c79242f1b10d20067aae86a9832f4e8bc742cccc014952a701979c3f923995e5"), looks := true }, kinds := [], alts := [], laidByText := true, laidKinds := [.data, .data, .data, .sentinel, .sentinel], laidTests := true, laidLooks := .later }
def RespFeedsCardSaid : Prop := Claim7.holds Tryd.pinned (.plain (OpenSpec.ofChange respFeedsSpec)) respFeedsCard

/-- THE TIED CARD OF 'covenantlaw03.RespCuts'. -/
def respCutsCard : Claim7 := { stood := { row := respCutsRow, standIns := [], harness := (true, "c79242f1b10d20067aae86a9832f4e8bc742cccc014952a701979c3f923995e5"), looks := true }, kinds := [], alts := [], laidByText := true, laidKinds := [.data, .data, .data, .sentinel, .sentinel], laidTests := true, laidLooks := .later }
def RespCutsCardSaid : Prop := Claim7.holds Tryd.pinned (.plain (OpenSpec.ofChange respCutsSpec)) respCutsCard

/-- THE TIED CARD OF 'covenantlaw03.RespBegins'. -/
def respBeginsCard : Claim7 := { stood := { row := respBeginsRow, standIns := [], harness := (true, "c79242f1b10d20067aae86a9832f4e8bc742cccc014952a701979c3f923995e5"), looks := true }, kinds := [], alts := [], laidByText := true, laidKinds := [.data, .data, .data, .sentinel, .sentinel], laidTests := true, laidLooks := .later }
def RespBeginsCardSaid : Prop := Claim7.holds Tryd.pinned (.plain (OpenSpec.ofChange respBeginsSpec)) respBeginsCard

/-- THE TIED CARD OF 'covenantlaw03.RespOwn'. -/
def respOwnCard : Claim7 := { stood := { row := respOwnRow, standIns := [], harness := (true, "c79242f1b10d20067aae86a9832f4e8bc742cccc014952a701979c3f923995e5"), looks := true }, kinds := [], alts := [], laidByText := true, laidKinds := [.data, .data, .data, .sentinel, .sentinel], laidTests := true, laidLooks := .later }
def RespOwnCardSaid : Prop := Claim7.holds Tryd.pinned (.plain (OpenSpec.ofChange respOwnSpec)) respOwnCard

/-- THE SECOND FORM's CARD OF 'covenantlaw03.RespShows'. -/
def respShowsUptoCard : Claim7 := { stood := { row := respShowsUptoRow, standIns := [], harness := (true, "c79242f1b10d20067aae86a9832f4e8bc742cccc014952a701979c3f923995e5"), looks := true }, kinds := [], alts := [], laidByText := true, laidKinds := [.data, .data, .data], laidTests := true, laidLooks := .later }
def RespShowsUptoCardSaid : Prop := Claim7.holds Tryd.pinned (.plain (OpenSpec.upto respShowsSpec)) respShowsUptoCard

/-- THE SECOND FORM's CARD OF 'covenantlaw03.RespEncodes'. -/
def respEncodesUptoCard : Claim7 := { stood := { row := respEncodesUptoRow, standIns := [], harness := (true, "c79242f1b10d20067aae86a9832f4e8bc742cccc014952a701979c3f923995e5"), looks := true }, kinds := [], alts := [], laidByText := true, laidKinds := [.data, .data, .data, .sentinel, .sentinel], laidTests := true, laidLooks := .later }
def RespEncodesUptoCardSaid : Prop := Claim7.holds Tryd.pinned (.plain (OpenSpec.upto respEncodesSpec)) respEncodesUptoCard

/-- THE SECOND FORM's CARD OF 'covenantlaw03.RespDecodes'. -/
def respDecodesUptoCard : Claim7 := { stood := { row := respDecodesUptoRow, standIns := [], harness := (true, "c79242f1b10d20067aae86a9832f4e8bc742cccc014952a701979c3f923995e5"), looks := true }, kinds := [], alts := [], laidByText := true, laidKinds := [.data, .data, .data, .sentinel, .sentinel], laidTests := true, laidLooks := .later }
def RespDecodesUptoCardSaid : Prop := Claim7.holds Tryd.pinned (.plain (OpenSpec.upto respDecodesSpec)) respDecodesUptoCard

/-- THE SECOND FORM's CARD OF 'covenantlaw03.RespBack'. -/
def respBackUptoCard : Claim7 := { stood := { row := respBackUptoRow, standIns := [], harness := (true, "c79242f1b10d20067aae86a9832f4e8bc742cccc014952a701979c3f923995e5"), looks := true }, kinds := [], alts := [], laidByText := true, laidKinds := [.data, .data, .data, .sentinel, .sentinel], laidTests := true, laidLooks := .later }
def RespBackUptoCardSaid : Prop := Claim7.holds Tryd.pinned (.plain (OpenSpec.upto respBackSpec)) respBackUptoCard

/-- THE SECOND FORM's CARD OF 'covenantlaw03.RespFeeds'. -/
def respFeedsUptoCard : Claim7 := { stood := { row := respFeedsUptoRow, standIns := [], harness := (true, "c79242f1b10d20067aae86a9832f4e8bc742cccc014952a701979c3f923995e5"), looks := true }, kinds := [], alts := [], laidByText := true, laidKinds := [.data, .data, .data, .sentinel, .sentinel], laidTests := true, laidLooks := .later }
def RespFeedsUptoCardSaid : Prop := Claim7.holds Tryd.pinned (.plain (OpenSpec.upto respFeedsSpec)) respFeedsUptoCard

/-- THE SECOND FORM's CARD OF 'covenantlaw03.RespCuts'. -/
def respCutsUptoCard : Claim7 := { stood := { row := respCutsUptoRow, standIns := [], harness := (true, "c79242f1b10d20067aae86a9832f4e8bc742cccc014952a701979c3f923995e5"), looks := true }, kinds := [], alts := [], laidByText := true, laidKinds := [.data, .data, .data, .sentinel, .sentinel], laidTests := true, laidLooks := .later }
def RespCutsUptoCardSaid : Prop := Claim7.holds Tryd.pinned (.plain (OpenSpec.upto respCutsSpec)) respCutsUptoCard

/-- THE SECOND FORM's CARD OF 'covenantlaw03.RespBegins'. -/
def respBeginsUptoCard : Claim7 := { stood := { row := respBeginsUptoRow, standIns := [], harness := (true, "c79242f1b10d20067aae86a9832f4e8bc742cccc014952a701979c3f923995e5"), looks := true }, kinds := [], alts := [], laidByText := true, laidKinds := [.data, .data, .data, .sentinel, .sentinel], laidTests := true, laidLooks := .later }
def RespBeginsUptoCardSaid : Prop := Claim7.holds Tryd.pinned (.plain (OpenSpec.upto respBeginsSpec)) respBeginsUptoCard

/-- THE SECOND FORM's CARD OF 'covenantlaw03.RespOwn'. -/
def respOwnUptoCard : Claim7 := { stood := { row := respOwnUptoRow, standIns := [], harness := (true, "c79242f1b10d20067aae86a9832f4e8bc742cccc014952a701979c3f923995e5"), looks := true }, kinds := [], alts := [], laidByText := true, laidKinds := [.data, .data, .data, .sentinel, .sentinel], laidTests := true, laidLooks := .later }
def RespOwnUptoCardSaid : Prop := Claim7.holds Tryd.pinned (.plain (OpenSpec.upto respOwnSpec)) respOwnUptoCard
end Rows
end Go.Proofs.YtpngmbdchceikaaDoor
