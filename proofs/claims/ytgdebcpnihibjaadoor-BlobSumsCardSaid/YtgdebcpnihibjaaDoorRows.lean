/-
  NARROWER THAN 'FOR EVERY INPUT', by the rows' own cells (each row's printed sentence says how): BlobRanges: laid · BlobSplices: laid · BlobBits: laid · BlobCounts: laid · BlobOps: laid · BlobIncrs: laid · BlobSet: laid · BlobLaid: laid · BlobSums: laid.
  DERIVED. THE GIVEN ROWS OF THIS SEAT. 9 by the template 'for every input the law returns true; each argument reads behind the call as it read before'; 0 by the template 'total and deterministic' (their statements: YtgdebcpnihibjaaDoorTotals.lean).
  GIVEN WITH THE SEED: the statements are not yours to turn. If you find one false, say at which input.
  Laid BY PROGRAM, IN A SANDBOX (cutbox-rows.mjs): the forced cells as the released guide's own fill.sh prints them over the translation 87fc6e64964d1561… (all of the seat's roots in one cut). By AI agents, Wed Nov 11 2026. No macro, syntax, notation, axiom, sorry.
-/
import Derived.Test.YtgdebcpnihibjaaDoorChecked
import GoSem.Claim
import GoSem.ClaimJoined
import GoSem.ClaimMapViews
import Derived.JoinedTies
import Derived.KernelRfl
namespace Go.Proofs.YtgdebcpnihibjaaDoor
/- THE CELL 'sum', in the pinned program and in every row, IS THE sha256 OF THE DUMP (.gsa) THAT YtgdebcpnihibjaaDoorProg.lean LOADS. Nothing in Lean hashes anything: it is a label: what it is worth is what the hold of that sum in a sandbox is worth. -/
noncomputable def Tryd.pinned : Pinned := { name := "ytgdebcpnihibjaadoor", sum := "87fc6e64964d15612f16f86ecb771467839a1e7430576063c898fc75c480baeb", checked := Tryd.checked }
namespace Rows
def none {H : Type} : Left H := { results := [], args := [] }

/- WHAT THE LISTED PACKAGE-LEVEL VARIABLES READ AS WHEN THE CALL BEGINS. Each datum BY PROGRAM (the guide's laid-datum.mjs) off the statement by which the dump's own 'gosem.cut.vars' lays the variable. In a bare row this is a premise. The card (YtgdebcpnihibjaaDoorCards.lean) ties it to the program's text. -/
def laid_math_bits_deBruijn32tab {H : Type} : DataW H := .agg [.lit (.int .u8 0), .lit (.int .u8 1), .lit (.int .u8 28), .lit (.int .u8 2), .lit (.int .u8 29), .lit (.int .u8 14), .lit (.int .u8 24), .lit (.int .u8 3), .lit (.int .u8 30), .lit (.int .u8 22), .lit (.int .u8 20), .lit (.int .u8 15), .lit (.int .u8 25), .lit (.int .u8 17), .lit (.int .u8 4), .lit (.int .u8 8), .lit (.int .u8 31), .lit (.int .u8 27), .lit (.int .u8 13), .lit (.int .u8 23), .lit (.int .u8 21), .lit (.int .u8 19), .lit (.int .u8 16), .lit (.int .u8 7), .lit (.int .u8 26), .lit (.int .u8 12), .lit (.int .u8 18), .lit (.int .u8 6), .lit (.int .u8 11), .lit (.int .u8 5), .lit (.int .u8 10), .lit (.int .u8 9)]
def laid_math_bits_deBruijn64tab {H : Type} : DataW H := .agg [.lit (.int .u8 0), .lit (.int .u8 1), .lit (.int .u8 56), .lit (.int .u8 2), .lit (.int .u8 57), .lit (.int .u8 49), .lit (.int .u8 28), .lit (.int .u8 3), .lit (.int .u8 61), .lit (.int .u8 58), .lit (.int .u8 42), .lit (.int .u8 50), .lit (.int .u8 38), .lit (.int .u8 29), .lit (.int .u8 17), .lit (.int .u8 4), .lit (.int .u8 62), .lit (.int .u8 47), .lit (.int .u8 59), .lit (.int .u8 36), .lit (.int .u8 45), .lit (.int .u8 43), .lit (.int .u8 51), .lit (.int .u8 22), .lit (.int .u8 53), .lit (.int .u8 39), .lit (.int .u8 33), .lit (.int .u8 30), .lit (.int .u8 24), .lit (.int .u8 18), .lit (.int .u8 12), .lit (.int .u8 5), .lit (.int .u8 63), .lit (.int .u8 55), .lit (.int .u8 48), .lit (.int .u8 27), .lit (.int .u8 60), .lit (.int .u8 41), .lit (.int .u8 37), .lit (.int .u8 16), .lit (.int .u8 46), .lit (.int .u8 35), .lit (.int .u8 44), .lit (.int .u8 21), .lit (.int .u8 52), .lit (.int .u8 32), .lit (.int .u8 23), .lit (.int .u8 11), .lit (.int .u8 54), .lit (.int .u8 26), .lit (.int .u8 40), .lit (.int .u8 15), .lit (.int .u8 34), .lit (.int .u8 20), .lit (.int .u8 31), .lit (.int .u8 10), .lit (.int .u8 25), .lit (.int .u8 14), .lit (.int .u8 19), .lit (.int .u8 9), .lit (.int .u8 13), .lit (.int .u8 8), .lit (.int .u8 7), .lit (.int .u8 6)]
def laid_internal_strconv_uint64pow10 {H : Type} : DataW H := .agg [.lit (.int .u64 1), .lit (.int .u64 10), .lit (.int .u64 100), .lit (.int .u64 1000), .lit (.int .u64 10000), .lit (.int .u64 100000), .lit (.int .u64 1000000), .lit (.int .u64 10000000), .lit (.int .u64 100000000), .lit (.int .u64 1000000000), .lit (.int .u64 10000000000), .lit (.int .u64 100000000000), .lit (.int .u64 1000000000000), .lit (.int .u64 10000000000000), .lit (.int .u64 100000000000000), .lit (.int .u64 1000000000000000), .lit (.int .u64 10000000000000000), .lit (.int .u64 100000000000000000), .lit (.int .u64 1000000000000000000), .lit (.int .u64 10000000000000000000)]
def laid_strconv_ErrRange {H : Type} : DataW H := .iface "*errors.errorString" (.ptr (.agg [.lit (.string [118, 97, 108, 117, 101, 32, 111, 117, 116, 32, 111, 102, 32, 114, 97, 110, 103, 101])]))
def laid_strconv_ErrSyntax {H : Type} : DataW H := .iface "*errors.errorString" (.ptr (.agg [.lit (.string [105, 110, 118, 97, 108, 105, 100, 32, 115, 121, 110, 116, 97, 120])]))

/-- 'covenantlaw08.BlobRanges': WHATEVER THE INPUT: true; the input reads as it did. -/
def blobRangesSpec : ChangeSpec := { name := "blobRanges", fn := fun _ => fun
  | [d1, d2, d3] => { results := [.lit (.bool true)], args := [d1, d2, d3] }
  | _ => none }
def blobRangesRow : OpenClaim := { program := "ytgdebcpnihibjaadoor", sum := "87fc6e64964d15612f16f86ecb771467839a1e7430576063c898fc75c480baeb", func := "covenant/covenantlaw08.BlobRanges", spec := "blobRanges", named := ["strconv.ErrSyntax", "strconv.ErrRange", "internal/strconv.uint64pow10", "math/bits.deBruijn32tab", "math/bits.deBruijn64tab"], apart := false, laid := [("math/bits.deBruijn32tab", laid_math_bits_deBruijn32tab), ("math/bits.deBruijn64tab", laid_math_bits_deBruijn64tab), ("internal/strconv.uint64pow10", laid_internal_strconv_uint64pow10), ("strconv.ErrRange", laid_strconv_ErrRange), ("strconv.ErrSyntax", laid_strconv_ErrSyntax)] }
def BlobRangesSaid : Prop := blobRangesRow.holds Tryd.pinned (OpenSpec.ofChange blobRangesSpec)

/-- ITS FALSE NEIGHBOUR: 'it returns false'. Refute it at one input. -/
def blobRangesWrong : ChangeSpec := { name := "blobRanges", fn := fun _ => fun
  | [d1, d2, d3] => { results := [.lit (.bool false)], args := [d1, d2, d3] }
  | _ => none }
def BlobRangesWrongFalsely : Prop := blobRangesRow.holds Tryd.pinned (OpenSpec.ofChange blobRangesWrong)

/-- 'covenantlaw08.BlobSplices': WHATEVER THE INPUT: true; the input reads as it did. -/
def blobSplicesSpec : ChangeSpec := { name := "blobSplices", fn := fun _ => fun
  | [d1, d2, d3] => { results := [.lit (.bool true)], args := [d1, d2, d3] }
  | _ => none }
def blobSplicesRow : OpenClaim := { program := "ytgdebcpnihibjaadoor", sum := "87fc6e64964d15612f16f86ecb771467839a1e7430576063c898fc75c480baeb", func := "covenant/covenantlaw08.BlobSplices", spec := "blobSplices", named := ["strconv.ErrSyntax", "strconv.ErrRange", "internal/strconv.uint64pow10", "math/bits.deBruijn32tab", "math/bits.deBruijn64tab"], apart := false, laid := [("math/bits.deBruijn32tab", laid_math_bits_deBruijn32tab), ("math/bits.deBruijn64tab", laid_math_bits_deBruijn64tab), ("internal/strconv.uint64pow10", laid_internal_strconv_uint64pow10), ("strconv.ErrRange", laid_strconv_ErrRange), ("strconv.ErrSyntax", laid_strconv_ErrSyntax)] }
def BlobSplicesSaid : Prop := blobSplicesRow.holds Tryd.pinned (OpenSpec.ofChange blobSplicesSpec)

/-- ITS FALSE NEIGHBOUR: 'it returns false'. Refute it at one input. -/
def blobSplicesWrong : ChangeSpec := { name := "blobSplices", fn := fun _ => fun
  | [d1, d2, d3] => { results := [.lit (.bool false)], args := [d1, d2, d3] }
  | _ => none }
def BlobSplicesWrongFalsely : Prop := blobSplicesRow.holds Tryd.pinned (OpenSpec.ofChange blobSplicesWrong)

/-- 'covenantlaw08.BlobBits': WHATEVER THE INPUT: true; the input reads as it did. -/
def blobBitsSpec : ChangeSpec := { name := "blobBits", fn := fun _ => fun
  | [d1, d2, d3] => { results := [.lit (.bool true)], args := [d1, d2, d3] }
  | _ => none }
def blobBitsRow : OpenClaim := { program := "ytgdebcpnihibjaadoor", sum := "87fc6e64964d15612f16f86ecb771467839a1e7430576063c898fc75c480baeb", func := "covenant/covenantlaw08.BlobBits", spec := "blobBits", named := ["strconv.ErrSyntax", "strconv.ErrRange", "internal/strconv.uint64pow10", "math/bits.deBruijn32tab", "math/bits.deBruijn64tab"], apart := false, laid := [("math/bits.deBruijn32tab", laid_math_bits_deBruijn32tab), ("math/bits.deBruijn64tab", laid_math_bits_deBruijn64tab), ("internal/strconv.uint64pow10", laid_internal_strconv_uint64pow10), ("strconv.ErrRange", laid_strconv_ErrRange), ("strconv.ErrSyntax", laid_strconv_ErrSyntax)] }
def BlobBitsSaid : Prop := blobBitsRow.holds Tryd.pinned (OpenSpec.ofChange blobBitsSpec)

/-- ITS FALSE NEIGHBOUR: 'it returns false'. Refute it at one input. -/
def blobBitsWrong : ChangeSpec := { name := "blobBits", fn := fun _ => fun
  | [d1, d2, d3] => { results := [.lit (.bool false)], args := [d1, d2, d3] }
  | _ => none }
def BlobBitsWrongFalsely : Prop := blobBitsRow.holds Tryd.pinned (OpenSpec.ofChange blobBitsWrong)

/-- 'covenantlaw08.BlobCounts': WHATEVER THE INPUT: true; the input reads as it did. -/
def blobCountsSpec : ChangeSpec := { name := "blobCounts", fn := fun _ => fun
  | [d1, d2] => { results := [.lit (.bool true)], args := [d1, d2] }
  | _ => none }
def blobCountsRow : OpenClaim := { program := "ytgdebcpnihibjaadoor", sum := "87fc6e64964d15612f16f86ecb771467839a1e7430576063c898fc75c480baeb", func := "covenant/covenantlaw08.BlobCounts", spec := "blobCounts", named := ["strconv.ErrSyntax", "strconv.ErrRange", "internal/strconv.uint64pow10", "math/bits.deBruijn32tab", "math/bits.deBruijn64tab"], apart := false, laid := [("math/bits.deBruijn32tab", laid_math_bits_deBruijn32tab), ("math/bits.deBruijn64tab", laid_math_bits_deBruijn64tab), ("internal/strconv.uint64pow10", laid_internal_strconv_uint64pow10), ("strconv.ErrRange", laid_strconv_ErrRange), ("strconv.ErrSyntax", laid_strconv_ErrSyntax)] }
def BlobCountsSaid : Prop := blobCountsRow.holds Tryd.pinned (OpenSpec.ofChange blobCountsSpec)

/-- ITS FALSE NEIGHBOUR: 'it returns false'. Refute it at one input. -/
def blobCountsWrong : ChangeSpec := { name := "blobCounts", fn := fun _ => fun
  | [d1, d2] => { results := [.lit (.bool false)], args := [d1, d2] }
  | _ => none }
def BlobCountsWrongFalsely : Prop := blobCountsRow.holds Tryd.pinned (OpenSpec.ofChange blobCountsWrong)

/-- 'covenantlaw08.BlobOps': WHATEVER THE INPUT: true; the input reads as it did. -/
def blobOpsSpec : ChangeSpec := { name := "blobOps", fn := fun _ => fun
  | [d1, d2] => { results := [.lit (.bool true)], args := [d1, d2] }
  | _ => none }
def blobOpsRow : OpenClaim := { program := "ytgdebcpnihibjaadoor", sum := "87fc6e64964d15612f16f86ecb771467839a1e7430576063c898fc75c480baeb", func := "covenant/covenantlaw08.BlobOps", spec := "blobOps", named := ["strconv.ErrSyntax", "strconv.ErrRange", "internal/strconv.uint64pow10", "math/bits.deBruijn32tab", "math/bits.deBruijn64tab"], apart := false, laid := [("math/bits.deBruijn32tab", laid_math_bits_deBruijn32tab), ("math/bits.deBruijn64tab", laid_math_bits_deBruijn64tab), ("internal/strconv.uint64pow10", laid_internal_strconv_uint64pow10), ("strconv.ErrRange", laid_strconv_ErrRange), ("strconv.ErrSyntax", laid_strconv_ErrSyntax)] }
def BlobOpsSaid : Prop := blobOpsRow.holds Tryd.pinned (OpenSpec.ofChange blobOpsSpec)

/-- ITS FALSE NEIGHBOUR: 'it returns false'. Refute it at one input. -/
def blobOpsWrong : ChangeSpec := { name := "blobOps", fn := fun _ => fun
  | [d1, d2] => { results := [.lit (.bool false)], args := [d1, d2] }
  | _ => none }
def BlobOpsWrongFalsely : Prop := blobOpsRow.holds Tryd.pinned (OpenSpec.ofChange blobOpsWrong)

/-- 'covenantlaw08.BlobIncrs': WHATEVER THE INPUT: true; the input reads as it did. -/
def blobIncrsSpec : ChangeSpec := { name := "blobIncrs", fn := fun _ => fun
  | [d1, d2] => { results := [.lit (.bool true)], args := [d1, d2] }
  | _ => none }
def blobIncrsRow : OpenClaim := { program := "ytgdebcpnihibjaadoor", sum := "87fc6e64964d15612f16f86ecb771467839a1e7430576063c898fc75c480baeb", func := "covenant/covenantlaw08.BlobIncrs", spec := "blobIncrs", named := ["strconv.ErrSyntax", "strconv.ErrRange", "internal/strconv.uint64pow10", "math/bits.deBruijn32tab", "math/bits.deBruijn64tab"], apart := false, laid := [("math/bits.deBruijn32tab", laid_math_bits_deBruijn32tab), ("math/bits.deBruijn64tab", laid_math_bits_deBruijn64tab), ("internal/strconv.uint64pow10", laid_internal_strconv_uint64pow10), ("strconv.ErrRange", laid_strconv_ErrRange), ("strconv.ErrSyntax", laid_strconv_ErrSyntax)] }
def BlobIncrsSaid : Prop := blobIncrsRow.holds Tryd.pinned (OpenSpec.ofChange blobIncrsSpec)

/-- ITS FALSE NEIGHBOUR: 'it returns false'. Refute it at one input. -/
def blobIncrsWrong : ChangeSpec := { name := "blobIncrs", fn := fun _ => fun
  | [d1, d2] => { results := [.lit (.bool false)], args := [d1, d2] }
  | _ => none }
def BlobIncrsWrongFalsely : Prop := blobIncrsRow.holds Tryd.pinned (OpenSpec.ofChange blobIncrsWrong)

/-- 'covenantlaw08.BlobSet': WHATEVER THE INPUT: true; the input reads as it did. -/
def blobSetSpec : ChangeSpec := { name := "blobSet", fn := fun _ => fun
  | [d1, d2, d3] => { results := [.lit (.bool true)], args := [d1, d2, d3] }
  | _ => none }
def blobSetRow : OpenClaim := { program := "ytgdebcpnihibjaadoor", sum := "87fc6e64964d15612f16f86ecb771467839a1e7430576063c898fc75c480baeb", func := "covenant/covenantlaw08.BlobSet", spec := "blobSet", named := ["strconv.ErrSyntax", "strconv.ErrRange", "internal/strconv.uint64pow10", "math/bits.deBruijn32tab", "math/bits.deBruijn64tab"], apart := false, laid := [("math/bits.deBruijn32tab", laid_math_bits_deBruijn32tab), ("math/bits.deBruijn64tab", laid_math_bits_deBruijn64tab), ("internal/strconv.uint64pow10", laid_internal_strconv_uint64pow10), ("strconv.ErrRange", laid_strconv_ErrRange), ("strconv.ErrSyntax", laid_strconv_ErrSyntax)] }
def BlobSetSaid : Prop := blobSetRow.holds Tryd.pinned (OpenSpec.ofChange blobSetSpec)

/-- ITS FALSE NEIGHBOUR: 'it returns false'. Refute it at one input. -/
def blobSetWrong : ChangeSpec := { name := "blobSet", fn := fun _ => fun
  | [d1, d2, d3] => { results := [.lit (.bool false)], args := [d1, d2, d3] }
  | _ => none }
def BlobSetWrongFalsely : Prop := blobSetRow.holds Tryd.pinned (OpenSpec.ofChange blobSetWrong)

/-- 'covenantlaw08.BlobLaid': WHATEVER THE INPUT: true; the input reads as it did. -/
def blobLaidSpec : ChangeSpec := { name := "blobLaid", fn := fun _ => fun
  | [d1, d2, d3] => { results := [.lit (.bool true)], args := [d1, d2, d3] }
  | _ => none }
def blobLaidRow : OpenClaim := { program := "ytgdebcpnihibjaadoor", sum := "87fc6e64964d15612f16f86ecb771467839a1e7430576063c898fc75c480baeb", func := "covenant/covenantlaw08.BlobLaid", spec := "blobLaid", named := ["strconv.ErrSyntax", "strconv.ErrRange", "internal/strconv.uint64pow10", "math/bits.deBruijn32tab", "math/bits.deBruijn64tab"], apart := false, laid := [("math/bits.deBruijn32tab", laid_math_bits_deBruijn32tab), ("math/bits.deBruijn64tab", laid_math_bits_deBruijn64tab), ("internal/strconv.uint64pow10", laid_internal_strconv_uint64pow10), ("strconv.ErrRange", laid_strconv_ErrRange), ("strconv.ErrSyntax", laid_strconv_ErrSyntax)] }
def BlobLaidSaid : Prop := blobLaidRow.holds Tryd.pinned (OpenSpec.ofChange blobLaidSpec)

/-- ITS FALSE NEIGHBOUR: 'it returns false'. Refute it at one input. -/
def blobLaidWrong : ChangeSpec := { name := "blobLaid", fn := fun _ => fun
  | [d1, d2, d3] => { results := [.lit (.bool false)], args := [d1, d2, d3] }
  | _ => none }
def BlobLaidWrongFalsely : Prop := blobLaidRow.holds Tryd.pinned (OpenSpec.ofChange blobLaidWrong)

/-- 'covenantlaw08.BlobSums': WHATEVER THE INPUT: true; the input reads as it did. -/
def blobSumsSpec : ChangeSpec := { name := "blobSums", fn := fun _ => fun
  | [d1, d2] => { results := [.lit (.bool true)], args := [d1, d2] }
  | _ => none }
def blobSumsRow : OpenClaim := { program := "ytgdebcpnihibjaadoor", sum := "87fc6e64964d15612f16f86ecb771467839a1e7430576063c898fc75c480baeb", func := "covenant/covenantlaw08.BlobSums", spec := "blobSums", named := ["strconv.ErrSyntax", "strconv.ErrRange", "internal/strconv.uint64pow10", "math/bits.deBruijn32tab", "math/bits.deBruijn64tab"], apart := false, laid := [("math/bits.deBruijn32tab", laid_math_bits_deBruijn32tab), ("math/bits.deBruijn64tab", laid_math_bits_deBruijn64tab), ("internal/strconv.uint64pow10", laid_internal_strconv_uint64pow10), ("strconv.ErrRange", laid_strconv_ErrRange), ("strconv.ErrSyntax", laid_strconv_ErrSyntax)] }
def BlobSumsSaid : Prop := blobSumsRow.holds Tryd.pinned (OpenSpec.ofChange blobSumsSpec)

/-- ITS FALSE NEIGHBOUR: 'it returns false'. Refute it at one input. -/
def blobSumsWrong : ChangeSpec := { name := "blobSums", fn := fun _ => fun
  | [d1, d2] => { results := [.lit (.bool false)], args := [d1, d2] }
  | _ => none }
def BlobSumsWrongFalsely : Prop := blobSumsRow.holds Tryd.pinned (OpenSpec.ofChange blobSumsWrong)

/- THE SECOND FORM. 'bulk': how many values and letters a reading holds, each counted each time it is reached (what is shared counts as often as it is met; a slice's spare places count too). A statement '..UptoSaid' is the law's where the arguments, and the package variables that the reading takes, are together of bulk at most 1048576: NARROWER than '..Said'. Prove '..Said' where nothing that the law and all that it calls make is longer than what came in: it says more and counts as full. Else prove '..UptoSaid'. A law counts once. -/
mutual
def uptoBulk {H : Type} : DataW H → Nat
  | .lit (.string bytes) => bytes.length + 1
  | .lit _ => 1
  | .nil => 1
  | .ptr d => uptoBulk d + 1
  | .slice elems spare => uptoBulkAll elems + uptoBulkAll spare + 1
  | .agg parts => uptoBulkAll parts + 1
  | .iface _ d => uptoBulk d + 1
  | .map entries => uptoBulkEntries entries + 1
  | .held _ => 1
def uptoBulkAll {H : Type} : List (DataW H) → Nat
  | [] => 0
  | d :: r => uptoBulk d + uptoBulkAll r
def uptoBulkEntries {H : Type} : List (Lit × DataW H) → Nat
  | [] => 0
  | x :: r => uptoBulkEntry x + uptoBulkEntries r
def uptoBulkEntry {H : Type} : Lit × DataW H → Nat
  | (.string bytes, d) => bytes.length + uptoBulk d + 1
  | (_, d) => uptoBulk d + 1
 end
def uptoSmall : (H : Type) → List (DataW H) → Bool := fun _ ds => decide (uptoBulkAll ds ≤ 1048576)
def OpenSpec.upto (s : _root_.Go.ChangeSpec) : _root_.Go.OpenSpec := { _root_.Go.OpenSpec.ofChange s with cond := some uptoSmall }

/-- 'covenantlaw08.BlobRanges', WHERE WHAT IT READS IS OF BULK AT MOST 1048576: true; the input reads as it did. -/
def blobRangesUptoRow : OpenClaim := { program := "ytgdebcpnihibjaadoor", sum := "87fc6e64964d15612f16f86ecb771467839a1e7430576063c898fc75c480baeb", func := "covenant/covenantlaw08.BlobRanges", spec := "blobRanges", named := ["strconv.ErrSyntax", "strconv.ErrRange", "internal/strconv.uint64pow10", "math/bits.deBruijn32tab", "math/bits.deBruijn64tab"], apart := false, laid := [("math/bits.deBruijn32tab", laid_math_bits_deBruijn32tab), ("math/bits.deBruijn64tab", laid_math_bits_deBruijn64tab), ("internal/strconv.uint64pow10", laid_internal_strconv_uint64pow10), ("strconv.ErrRange", laid_strconv_ErrRange), ("strconv.ErrSyntax", laid_strconv_ErrSyntax)], narrowed := true }
def BlobRangesUptoSaid : Prop := blobRangesUptoRow.holds Tryd.pinned (OpenSpec.upto blobRangesSpec)

/-- 'covenantlaw08.BlobSplices', WHERE WHAT IT READS IS OF BULK AT MOST 1048576: true; the input reads as it did. -/
def blobSplicesUptoRow : OpenClaim := { program := "ytgdebcpnihibjaadoor", sum := "87fc6e64964d15612f16f86ecb771467839a1e7430576063c898fc75c480baeb", func := "covenant/covenantlaw08.BlobSplices", spec := "blobSplices", named := ["strconv.ErrSyntax", "strconv.ErrRange", "internal/strconv.uint64pow10", "math/bits.deBruijn32tab", "math/bits.deBruijn64tab"], apart := false, laid := [("math/bits.deBruijn32tab", laid_math_bits_deBruijn32tab), ("math/bits.deBruijn64tab", laid_math_bits_deBruijn64tab), ("internal/strconv.uint64pow10", laid_internal_strconv_uint64pow10), ("strconv.ErrRange", laid_strconv_ErrRange), ("strconv.ErrSyntax", laid_strconv_ErrSyntax)], narrowed := true }
def BlobSplicesUptoSaid : Prop := blobSplicesUptoRow.holds Tryd.pinned (OpenSpec.upto blobSplicesSpec)

/-- 'covenantlaw08.BlobBits', WHERE WHAT IT READS IS OF BULK AT MOST 1048576: true; the input reads as it did. -/
def blobBitsUptoRow : OpenClaim := { program := "ytgdebcpnihibjaadoor", sum := "87fc6e64964d15612f16f86ecb771467839a1e7430576063c898fc75c480baeb", func := "covenant/covenantlaw08.BlobBits", spec := "blobBits", named := ["strconv.ErrSyntax", "strconv.ErrRange", "internal/strconv.uint64pow10", "math/bits.deBruijn32tab", "math/bits.deBruijn64tab"], apart := false, laid := [("math/bits.deBruijn32tab", laid_math_bits_deBruijn32tab), ("math/bits.deBruijn64tab", laid_math_bits_deBruijn64tab), ("internal/strconv.uint64pow10", laid_internal_strconv_uint64pow10), ("strconv.ErrRange", laid_strconv_ErrRange), ("strconv.ErrSyntax", laid_strconv_ErrSyntax)], narrowed := true }
def BlobBitsUptoSaid : Prop := blobBitsUptoRow.holds Tryd.pinned (OpenSpec.upto blobBitsSpec)

/-- 'covenantlaw08.BlobCounts', WHERE WHAT IT READS IS OF BULK AT MOST 1048576: true; the input reads as it did. -/
def blobCountsUptoRow : OpenClaim := { program := "ytgdebcpnihibjaadoor", sum := "87fc6e64964d15612f16f86ecb771467839a1e7430576063c898fc75c480baeb", func := "covenant/covenantlaw08.BlobCounts", spec := "blobCounts", named := ["strconv.ErrSyntax", "strconv.ErrRange", "internal/strconv.uint64pow10", "math/bits.deBruijn32tab", "math/bits.deBruijn64tab"], apart := false, laid := [("math/bits.deBruijn32tab", laid_math_bits_deBruijn32tab), ("math/bits.deBruijn64tab", laid_math_bits_deBruijn64tab), ("internal/strconv.uint64pow10", laid_internal_strconv_uint64pow10), ("strconv.ErrRange", laid_strconv_ErrRange), ("strconv.ErrSyntax", laid_strconv_ErrSyntax)], narrowed := true }
def BlobCountsUptoSaid : Prop := blobCountsUptoRow.holds Tryd.pinned (OpenSpec.upto blobCountsSpec)

/-- 'covenantlaw08.BlobOps', WHERE WHAT IT READS IS OF BULK AT MOST 1048576: true; the input reads as it did. -/
def blobOpsUptoRow : OpenClaim := { program := "ytgdebcpnihibjaadoor", sum := "87fc6e64964d15612f16f86ecb771467839a1e7430576063c898fc75c480baeb", func := "covenant/covenantlaw08.BlobOps", spec := "blobOps", named := ["strconv.ErrSyntax", "strconv.ErrRange", "internal/strconv.uint64pow10", "math/bits.deBruijn32tab", "math/bits.deBruijn64tab"], apart := false, laid := [("math/bits.deBruijn32tab", laid_math_bits_deBruijn32tab), ("math/bits.deBruijn64tab", laid_math_bits_deBruijn64tab), ("internal/strconv.uint64pow10", laid_internal_strconv_uint64pow10), ("strconv.ErrRange", laid_strconv_ErrRange), ("strconv.ErrSyntax", laid_strconv_ErrSyntax)], narrowed := true }
def BlobOpsUptoSaid : Prop := blobOpsUptoRow.holds Tryd.pinned (OpenSpec.upto blobOpsSpec)

/-- 'covenantlaw08.BlobIncrs', WHERE WHAT IT READS IS OF BULK AT MOST 1048576: true; the input reads as it did. -/
def blobIncrsUptoRow : OpenClaim := { program := "ytgdebcpnihibjaadoor", sum := "87fc6e64964d15612f16f86ecb771467839a1e7430576063c898fc75c480baeb", func := "covenant/covenantlaw08.BlobIncrs", spec := "blobIncrs", named := ["strconv.ErrSyntax", "strconv.ErrRange", "internal/strconv.uint64pow10", "math/bits.deBruijn32tab", "math/bits.deBruijn64tab"], apart := false, laid := [("math/bits.deBruijn32tab", laid_math_bits_deBruijn32tab), ("math/bits.deBruijn64tab", laid_math_bits_deBruijn64tab), ("internal/strconv.uint64pow10", laid_internal_strconv_uint64pow10), ("strconv.ErrRange", laid_strconv_ErrRange), ("strconv.ErrSyntax", laid_strconv_ErrSyntax)], narrowed := true }
def BlobIncrsUptoSaid : Prop := blobIncrsUptoRow.holds Tryd.pinned (OpenSpec.upto blobIncrsSpec)

/-- 'covenantlaw08.BlobSet', WHERE WHAT IT READS IS OF BULK AT MOST 1048576: true; the input reads as it did. -/
def blobSetUptoRow : OpenClaim := { program := "ytgdebcpnihibjaadoor", sum := "87fc6e64964d15612f16f86ecb771467839a1e7430576063c898fc75c480baeb", func := "covenant/covenantlaw08.BlobSet", spec := "blobSet", named := ["strconv.ErrSyntax", "strconv.ErrRange", "internal/strconv.uint64pow10", "math/bits.deBruijn32tab", "math/bits.deBruijn64tab"], apart := false, laid := [("math/bits.deBruijn32tab", laid_math_bits_deBruijn32tab), ("math/bits.deBruijn64tab", laid_math_bits_deBruijn64tab), ("internal/strconv.uint64pow10", laid_internal_strconv_uint64pow10), ("strconv.ErrRange", laid_strconv_ErrRange), ("strconv.ErrSyntax", laid_strconv_ErrSyntax)], narrowed := true }
def BlobSetUptoSaid : Prop := blobSetUptoRow.holds Tryd.pinned (OpenSpec.upto blobSetSpec)

/-- 'covenantlaw08.BlobLaid', WHERE WHAT IT READS IS OF BULK AT MOST 1048576: true; the input reads as it did. -/
def blobLaidUptoRow : OpenClaim := { program := "ytgdebcpnihibjaadoor", sum := "87fc6e64964d15612f16f86ecb771467839a1e7430576063c898fc75c480baeb", func := "covenant/covenantlaw08.BlobLaid", spec := "blobLaid", named := ["strconv.ErrSyntax", "strconv.ErrRange", "internal/strconv.uint64pow10", "math/bits.deBruijn32tab", "math/bits.deBruijn64tab"], apart := false, laid := [("math/bits.deBruijn32tab", laid_math_bits_deBruijn32tab), ("math/bits.deBruijn64tab", laid_math_bits_deBruijn64tab), ("internal/strconv.uint64pow10", laid_internal_strconv_uint64pow10), ("strconv.ErrRange", laid_strconv_ErrRange), ("strconv.ErrSyntax", laid_strconv_ErrSyntax)], narrowed := true }
def BlobLaidUptoSaid : Prop := blobLaidUptoRow.holds Tryd.pinned (OpenSpec.upto blobLaidSpec)

/-- 'covenantlaw08.BlobSums', WHERE WHAT IT READS IS OF BULK AT MOST 1048576: true; the input reads as it did. -/
def blobSumsUptoRow : OpenClaim := { program := "ytgdebcpnihibjaadoor", sum := "87fc6e64964d15612f16f86ecb771467839a1e7430576063c898fc75c480baeb", func := "covenant/covenantlaw08.BlobSums", spec := "blobSums", named := ["strconv.ErrSyntax", "strconv.ErrRange", "internal/strconv.uint64pow10", "math/bits.deBruijn32tab", "math/bits.deBruijn64tab"], apart := false, laid := [("math/bits.deBruijn32tab", laid_math_bits_deBruijn32tab), ("math/bits.deBruijn64tab", laid_math_bits_deBruijn64tab), ("internal/strconv.uint64pow10", laid_internal_strconv_uint64pow10), ("strconv.ErrRange", laid_strconv_ErrRange), ("strconv.ErrSyntax", laid_strconv_ErrSyntax)], narrowed := true }
def BlobSumsUptoSaid : Prop := blobSumsUptoRow.holds Tryd.pinned (OpenSpec.upto blobSumsSpec)

end Rows
end Go.Proofs.YtgdebcpnihibjaaDoor
