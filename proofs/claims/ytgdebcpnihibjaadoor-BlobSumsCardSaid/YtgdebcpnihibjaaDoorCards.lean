/-
  DERIVED. GIVEN WITH THE SEED: THE CARDS: each row of YtgdebcpnihibjaaDoorRows.lean that lists a variable, with what it lists TIED to the program's text (the seventh form; the later family's looks); each row that meets fmt, with fmt's text TOLD by the authors' own Lean function (tested against real Go, not proved from fmt's source: count such statements apart). THE CARD IS WHAT COUNTS. Prove the row's statement (the work); the ties are given (YtgdebcpnihibjaaDoorTie.lean); close each card by the builder's one call (the guide's Derived/Test/ToyasCard.lean, 'card_holds'). Laid BY PROGRAM, IN A SANDBOX (cutbox-door.mjs). By AI agents, Wed Nov 11 2026. No macro, syntax, notation, axiom, sorry.
-/
import Derived.Test.YtgdebcpnihibjaaDoorRows
import GoSem.ClaimSeven
namespace Go.Proofs.YtgdebcpnihibjaaDoor
namespace Rows

/-- THE TIED CARD OF 'covenantlaw08.BlobRanges'. -/
def blobRangesCard : Claim7 := { stood := { row := blobRangesRow, standIns := [], harness := (true, "c1d5d6f852a7a35460022bff23882e98f8684b1b56e4518677bbf94bf13d02e8"), looks := true }, kinds := [], alts := [], laidByText := true, laidKinds := [.data, .data, .data, .sentinel, .sentinel], laidTests := true, laidLooks := .later }
def BlobRangesCardSaid : Prop := Claim7.holds Tryd.pinned (.plain (OpenSpec.ofChange blobRangesSpec)) blobRangesCard

/-- THE TIED CARD OF 'covenantlaw08.BlobSplices'. -/
def blobSplicesCard : Claim7 := { stood := { row := blobSplicesRow, standIns := [], harness := (true, "c1d5d6f852a7a35460022bff23882e98f8684b1b56e4518677bbf94bf13d02e8"), looks := true }, kinds := [], alts := [], laidByText := true, laidKinds := [.data, .data, .data, .sentinel, .sentinel], laidTests := true, laidLooks := .later }
def BlobSplicesCardSaid : Prop := Claim7.holds Tryd.pinned (.plain (OpenSpec.ofChange blobSplicesSpec)) blobSplicesCard

/-- THE TIED CARD OF 'covenantlaw08.BlobBits'. -/
def blobBitsCard : Claim7 := { stood := { row := blobBitsRow, standIns := [], harness := (true, "c1d5d6f852a7a35460022bff23882e98f8684b1b56e4518677bbf94bf13d02e8"), looks := true }, kinds := [], alts := [], laidByText := true, laidKinds := [.data, .data, .data, .sentinel, .sentinel], laidTests := true, laidLooks := .later }
def BlobBitsCardSaid : Prop := Claim7.holds Tryd.pinned (.plain (OpenSpec.ofChange blobBitsSpec)) blobBitsCard

/-- THE TIED CARD OF 'covenantlaw08.BlobCounts'. -/
def blobCountsCard : Claim7 := { stood := { row := blobCountsRow, standIns := [], harness := (true, "c1d5d6f852a7a35460022bff23882e98f8684b1b56e4518677bbf94bf13d02e8"), looks := true }, kinds := [], alts := [], laidByText := true, laidKinds := [.data, .data, .data, .sentinel, .sentinel], laidTests := true, laidLooks := .later }
def BlobCountsCardSaid : Prop := Claim7.holds Tryd.pinned (.plain (OpenSpec.ofChange blobCountsSpec)) blobCountsCard

/-- THE TIED CARD OF 'covenantlaw08.BlobOps'. -/
def blobOpsCard : Claim7 := { stood := { row := blobOpsRow, standIns := [], harness := (true, "c1d5d6f852a7a35460022bff23882e98f8684b1b56e4518677bbf94bf13d02e8"), looks := true }, kinds := [], alts := [], laidByText := true, laidKinds := [.data, .data, .data, .sentinel, .sentinel], laidTests := true, laidLooks := .later }
def BlobOpsCardSaid : Prop := Claim7.holds Tryd.pinned (.plain (OpenSpec.ofChange blobOpsSpec)) blobOpsCard

/-- THE TIED CARD OF 'covenantlaw08.BlobIncrs'. -/
def blobIncrsCard : Claim7 := { stood := { row := blobIncrsRow, standIns := [], harness := (true, "c1d5d6f852a7a35460022bff23882e98f8684b1b56e4518677bbf94bf13d02e8"), looks := true }, kinds := [], alts := [], laidByText := true, laidKinds := [.data, .data, .data, .sentinel, .sentinel], laidTests := true, laidLooks := .later }
def BlobIncrsCardSaid : Prop := Claim7.holds Tryd.pinned (.plain (OpenSpec.ofChange blobIncrsSpec)) blobIncrsCard

/-- THE TIED CARD OF 'covenantlaw08.BlobSet'. -/
def blobSetCard : Claim7 := { stood := { row := blobSetRow, standIns := [], harness := (true, "c1d5d6f852a7a35460022bff23882e98f8684b1b56e4518677bbf94bf13d02e8"), looks := true }, kinds := [], alts := [], laidByText := true, laidKinds := [.data, .data, .data, .sentinel, .sentinel], laidTests := true, laidLooks := .later }
def BlobSetCardSaid : Prop := Claim7.holds Tryd.pinned (.plain (OpenSpec.ofChange blobSetSpec)) blobSetCard

/-- THE TIED CARD OF 'covenantlaw08.BlobLaid'. -/
def blobLaidCard : Claim7 := { stood := { row := blobLaidRow, standIns := [], harness := (true, "c1d5d6f852a7a35460022bff23882e98f8684b1b56e4518677bbf94bf13d02e8"), looks := true }, kinds := [], alts := [], laidByText := true, laidKinds := [.data, .data, .data, .sentinel, .sentinel], laidTests := true, laidLooks := .later }
def BlobLaidCardSaid : Prop := Claim7.holds Tryd.pinned (.plain (OpenSpec.ofChange blobLaidSpec)) blobLaidCard

/-- THE TIED CARD OF 'covenantlaw08.BlobSums'. -/
def blobSumsCard : Claim7 := { stood := { row := blobSumsRow, standIns := [], harness := (true, "c1d5d6f852a7a35460022bff23882e98f8684b1b56e4518677bbf94bf13d02e8"), looks := true }, kinds := [], alts := [], laidByText := true, laidKinds := [.data, .data, .data, .sentinel, .sentinel], laidTests := true, laidLooks := .later }
def BlobSumsCardSaid : Prop := Claim7.holds Tryd.pinned (.plain (OpenSpec.ofChange blobSumsSpec)) blobSumsCard

/-- THE SECOND FORM's CARD OF 'covenantlaw08.BlobRanges'. -/
def blobRangesUptoCard : Claim7 := { stood := { row := blobRangesUptoRow, standIns := [], harness := (true, "c1d5d6f852a7a35460022bff23882e98f8684b1b56e4518677bbf94bf13d02e8"), looks := true }, kinds := [], alts := [], laidByText := true, laidKinds := [.data, .data, .data, .sentinel, .sentinel], laidTests := true, laidLooks := .later }
def BlobRangesUptoCardSaid : Prop := Claim7.holds Tryd.pinned (.plain (OpenSpec.upto blobRangesSpec)) blobRangesUptoCard

/-- THE SECOND FORM's CARD OF 'covenantlaw08.BlobSplices'. -/
def blobSplicesUptoCard : Claim7 := { stood := { row := blobSplicesUptoRow, standIns := [], harness := (true, "c1d5d6f852a7a35460022bff23882e98f8684b1b56e4518677bbf94bf13d02e8"), looks := true }, kinds := [], alts := [], laidByText := true, laidKinds := [.data, .data, .data, .sentinel, .sentinel], laidTests := true, laidLooks := .later }
def BlobSplicesUptoCardSaid : Prop := Claim7.holds Tryd.pinned (.plain (OpenSpec.upto blobSplicesSpec)) blobSplicesUptoCard

/-- THE SECOND FORM's CARD OF 'covenantlaw08.BlobBits'. -/
def blobBitsUptoCard : Claim7 := { stood := { row := blobBitsUptoRow, standIns := [], harness := (true, "c1d5d6f852a7a35460022bff23882e98f8684b1b56e4518677bbf94bf13d02e8"), looks := true }, kinds := [], alts := [], laidByText := true, laidKinds := [.data, .data, .data, .sentinel, .sentinel], laidTests := true, laidLooks := .later }
def BlobBitsUptoCardSaid : Prop := Claim7.holds Tryd.pinned (.plain (OpenSpec.upto blobBitsSpec)) blobBitsUptoCard

/-- THE SECOND FORM's CARD OF 'covenantlaw08.BlobCounts'. -/
def blobCountsUptoCard : Claim7 := { stood := { row := blobCountsUptoRow, standIns := [], harness := (true, "c1d5d6f852a7a35460022bff23882e98f8684b1b56e4518677bbf94bf13d02e8"), looks := true }, kinds := [], alts := [], laidByText := true, laidKinds := [.data, .data, .data, .sentinel, .sentinel], laidTests := true, laidLooks := .later }
def BlobCountsUptoCardSaid : Prop := Claim7.holds Tryd.pinned (.plain (OpenSpec.upto blobCountsSpec)) blobCountsUptoCard

/-- THE SECOND FORM's CARD OF 'covenantlaw08.BlobOps'. -/
def blobOpsUptoCard : Claim7 := { stood := { row := blobOpsUptoRow, standIns := [], harness := (true, "c1d5d6f852a7a35460022bff23882e98f8684b1b56e4518677bbf94bf13d02e8"), looks := true }, kinds := [], alts := [], laidByText := true, laidKinds := [.data, .data, .data, .sentinel, .sentinel], laidTests := true, laidLooks := .later }
def BlobOpsUptoCardSaid : Prop := Claim7.holds Tryd.pinned (.plain (OpenSpec.upto blobOpsSpec)) blobOpsUptoCard

/-- THE SECOND FORM's CARD OF 'covenantlaw08.BlobIncrs'. -/
def blobIncrsUptoCard : Claim7 := { stood := { row := blobIncrsUptoRow, standIns := [], harness := (true, "c1d5d6f852a7a35460022bff23882e98f8684b1b56e4518677bbf94bf13d02e8"), looks := true }, kinds := [], alts := [], laidByText := true, laidKinds := [.data, .data, .data, .sentinel, .sentinel], laidTests := true, laidLooks := .later }
def BlobIncrsUptoCardSaid : Prop := Claim7.holds Tryd.pinned (.plain (OpenSpec.upto blobIncrsSpec)) blobIncrsUptoCard

/-- THE SECOND FORM's CARD OF 'covenantlaw08.BlobSet'. -/
def blobSetUptoCard : Claim7 := { stood := { row := blobSetUptoRow, standIns := [], harness := (true, "c1d5d6f852a7a35460022bff23882e98f8684b1b56e4518677bbf94bf13d02e8"), looks := true }, kinds := [], alts := [], laidByText := true, laidKinds := [.data, .data, .data, .sentinel, .sentinel], laidTests := true, laidLooks := .later }
def BlobSetUptoCardSaid : Prop := Claim7.holds Tryd.pinned (.plain (OpenSpec.upto blobSetSpec)) blobSetUptoCard

/-- THE SECOND FORM's CARD OF 'covenantlaw08.BlobLaid'. -/
def blobLaidUptoCard : Claim7 := { stood := { row := blobLaidUptoRow, standIns := [], harness := (true, "c1d5d6f852a7a35460022bff23882e98f8684b1b56e4518677bbf94bf13d02e8"), looks := true }, kinds := [], alts := [], laidByText := true, laidKinds := [.data, .data, .data, .sentinel, .sentinel], laidTests := true, laidLooks := .later }
def BlobLaidUptoCardSaid : Prop := Claim7.holds Tryd.pinned (.plain (OpenSpec.upto blobLaidSpec)) blobLaidUptoCard

/-- THE SECOND FORM's CARD OF 'covenantlaw08.BlobSums'. -/
def blobSumsUptoCard : Claim7 := { stood := { row := blobSumsUptoRow, standIns := [], harness := (true, "c1d5d6f852a7a35460022bff23882e98f8684b1b56e4518677bbf94bf13d02e8"), looks := true }, kinds := [], alts := [], laidByText := true, laidKinds := [.data, .data, .data, .sentinel, .sentinel], laidTests := true, laidLooks := .later }
def BlobSumsUptoCardSaid : Prop := Claim7.holds Tryd.pinned (.plain (OpenSpec.upto blobSumsSpec)) blobSumsUptoCard
end Rows
end Go.Proofs.YtgdebcpnihibjaaDoor
