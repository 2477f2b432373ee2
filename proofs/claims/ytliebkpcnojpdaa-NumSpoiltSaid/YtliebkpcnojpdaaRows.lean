/-
  No cell of these rows narrows 'for every input' (looked for: loops, veiled, ifaces, maps, wideKeys, modest, calm, conditions, laid).
  DERIVED. THE GIVEN ROWS OF THIS SEAT. 7 by the template 'for every input the law returns true; each argument reads behind the call as it read before'; 0 by the template 'total and deterministic' (their statements: YtliebkpcnojpdaaTotals.lean).
  GIVEN WITH THE SEED: the statements are not yours to turn. If you find one false, say at which input.
  Laid BY PROGRAM, IN A SANDBOX (cutbox-rows.mjs): the forced cells as the released guide's own fill.sh prints them over the translation b0f2f25bb34dffe5… (all of the seat's roots in one cut). By AI agents, Wed Nov 11 2026. No macro, syntax, notation, axiom, sorry.
-/
import Derived.Test.YtliebkpcnojpdaaChecked
import GoSem.Claim
import GoSem.ClaimJoined
import GoSem.ClaimMapViews
import Derived.JoinedTies
import Derived.KernelRfl
namespace Go.Proofs.Ytliebkpcnojpdaa
/- THE CELL 'sum', in the pinned program and in every row, IS THE sha256 OF THE DUMP (.gsa) THAT YtliebkpcnojpdaaProg.lean LOADS. Nothing in Lean hashes anything: it is a label: what it is worth is what the hold of that sum in a sandbox is worth. -/
noncomputable def Try.pinned : Pinned := { name := "ytliebkpcnojpdaa", sum := "b0f2f25bb34dffe598e445842f3e096f1d4c864f13ae03cdb9af46e9aaa38b92", checked := Try.checked }
namespace Rows
def none {H : Type} : Left H := { results := [], args := [] }

/-- 'covenantlaw01.NumFixes': WHATEVER THE INPUT: true; the input reads as it did. -/
def numFixesSpec : ChangeSpec := { name := "numFixes", fn := fun _ => fun
  | [d1, d2] => { results := [.lit (.bool true)], args := [d1, d2] }
  | _ => none }
def numFixesRow : OpenClaim := { program := "ytliebkpcnojpdaa", sum := "b0f2f25bb34dffe598e445842f3e096f1d4c864f13ae03cdb9af46e9aaa38b92", func := "covenant/covenantlaw01.NumFixes", spec := "numFixes", apart := false }
def NumFixesSaid : Prop := numFixesRow.holds Try.pinned (OpenSpec.ofChange numFixesSpec)

/-- ITS FALSE NEIGHBOUR: 'it returns false'. Refute it at one input. -/
def numFixesWrong : ChangeSpec := { name := "numFixes", fn := fun _ => fun
  | [d1, d2] => { results := [.lit (.bool false)], args := [d1, d2] }
  | _ => none }
def NumFixesWrongFalsely : Prop := numFixesRow.holds Try.pinned (OpenSpec.ofChange numFixesWrong)

/-- 'covenantlaw01.NumUnfixes': WHATEVER THE INPUT: true; the input reads as it did. -/
def numUnfixesSpec : ChangeSpec := { name := "numUnfixes", fn := fun _ => fun
  | [d] => { results := [.lit (.bool true)], args := [d] }
  | _ => none }
def numUnfixesRow : OpenClaim := { program := "ytliebkpcnojpdaa", sum := "b0f2f25bb34dffe598e445842f3e096f1d4c864f13ae03cdb9af46e9aaa38b92", func := "covenant/covenantlaw01.NumUnfixes", spec := "numUnfixes", apart := false }
def NumUnfixesSaid : Prop := numUnfixesRow.holds Try.pinned (OpenSpec.ofChange numUnfixesSpec)

/-- ITS FALSE NEIGHBOUR: 'it returns false'. Refute it at one input. -/
def numUnfixesWrong : ChangeSpec := { name := "numUnfixes", fn := fun _ => fun
  | [d] => { results := [.lit (.bool false)], args := [d] }
  | _ => none }
def NumUnfixesWrongFalsely : Prop := numUnfixesRow.holds Try.pinned (OpenSpec.ofChange numUnfixesWrong)

/-- 'covenantlaw01.NumCrcs': WHATEVER THE INPUT: true; the input reads as it did. -/
def numCrcsSpec : ChangeSpec := { name := "numCrcs", fn := fun _ => fun
  | [d] => { results := [.lit (.bool true)], args := [d] }
  | _ => none }
def numCrcsRow : OpenClaim := { program := "ytliebkpcnojpdaa", sum := "b0f2f25bb34dffe598e445842f3e096f1d4c864f13ae03cdb9af46e9aaa38b92", func := "covenant/covenantlaw01.NumCrcs", spec := "numCrcs", apart := false }
def NumCrcsSaid : Prop := numCrcsRow.holds Try.pinned (OpenSpec.ofChange numCrcsSpec)

/-- ITS FALSE NEIGHBOUR: 'it returns false'. Refute it at one input. -/
def numCrcsWrong : ChangeSpec := { name := "numCrcs", fn := fun _ => fun
  | [d] => { results := [.lit (.bool false)], args := [d] }
  | _ => none }
def NumCrcsWrongFalsely : Prop := numCrcsRow.holds Try.pinned (OpenSpec.ofChange numCrcsWrong)

/-- 'covenantlaw01.NumMores': WHATEVER THE INPUT: true; the input reads as it did. -/
def numMoresSpec : ChangeSpec := { name := "numMores", fn := fun _ => fun
  | [d1, d2, d3] => { results := [.lit (.bool true)], args := [d1, d2, d3] }
  | _ => none }
def numMoresRow : OpenClaim := { program := "ytliebkpcnojpdaa", sum := "b0f2f25bb34dffe598e445842f3e096f1d4c864f13ae03cdb9af46e9aaa38b92", func := "covenant/covenantlaw01.NumMores", spec := "numMores", apart := false }
def NumMoresSaid : Prop := numMoresRow.holds Try.pinned (OpenSpec.ofChange numMoresSpec)

/-- ITS FALSE NEIGHBOUR: 'it returns false'. Refute it at one input. -/
def numMoresWrong : ChangeSpec := { name := "numMores", fn := fun _ => fun
  | [d1, d2, d3] => { results := [.lit (.bool false)], args := [d1, d2, d3] }
  | _ => none }
def NumMoresWrongFalsely : Prop := numMoresRow.holds Try.pinned (OpenSpec.ofChange numMoresWrong)

/-- 'covenantlaw01.NumSpoilt': WHATEVER THE INPUT: true; the input reads as it did. -/
def numSpoiltSpec : ChangeSpec := { name := "numSpoilt", fn := fun _ => fun
  | [d1, d2, d3] => { results := [.lit (.bool true)], args := [d1, d2, d3] }
  | _ => none }
def numSpoiltRow : OpenClaim := { program := "ytliebkpcnojpdaa", sum := "b0f2f25bb34dffe598e445842f3e096f1d4c864f13ae03cdb9af46e9aaa38b92", func := "covenant/covenantlaw01.NumSpoilt", spec := "numSpoilt", apart := false }
def NumSpoiltSaid : Prop := numSpoiltRow.holds Try.pinned (OpenSpec.ofChange numSpoiltSpec)

/-- ITS FALSE NEIGHBOUR: 'it returns false'. Refute it at one input. -/
def numSpoiltWrong : ChangeSpec := { name := "numSpoilt", fn := fun _ => fun
  | [d1, d2, d3] => { results := [.lit (.bool false)], args := [d1, d2, d3] }
  | _ => none }
def NumSpoiltWrongFalsely : Prop := numSpoiltRow.holds Try.pinned (OpenSpec.ofChange numSpoiltWrong)

/-- 'covenantlaw01.NumSums': WHATEVER THE INPUT: true; the input reads as it did. -/
def numSumsSpec : ChangeSpec := { name := "numSums", fn := fun _ => fun
  | [d1, d2] => { results := [.lit (.bool true)], args := [d1, d2] }
  | _ => none }
def numSumsRow : OpenClaim := { program := "ytliebkpcnojpdaa", sum := "b0f2f25bb34dffe598e445842f3e096f1d4c864f13ae03cdb9af46e9aaa38b92", func := "covenant/covenantlaw01.NumSums", spec := "numSums", apart := false }
def NumSumsSaid : Prop := numSumsRow.holds Try.pinned (OpenSpec.ofChange numSumsSpec)

/-- ITS FALSE NEIGHBOUR: 'it returns false'. Refute it at one input. -/
def numSumsWrong : ChangeSpec := { name := "numSums", fn := fun _ => fun
  | [d1, d2] => { results := [.lit (.bool false)], args := [d1, d2] }
  | _ => none }
def NumSumsWrongFalsely : Prop := numSumsRow.holds Try.pinned (OpenSpec.ofChange numSumsWrong)

/-- 'covenantlaw01.NumRing': WHATEVER THE INPUT: true; the input reads as it did. -/
def numRingSpec : ChangeSpec := { name := "numRing", fn := fun _ => fun
  | [d1, d2, d3] => { results := [.lit (.bool true)], args := [d1, d2, d3] }
  | _ => none }
def numRingRow : OpenClaim := { program := "ytliebkpcnojpdaa", sum := "b0f2f25bb34dffe598e445842f3e096f1d4c864f13ae03cdb9af46e9aaa38b92", func := "covenant/covenantlaw01.NumRing", spec := "numRing", apart := false }
def NumRingSaid : Prop := numRingRow.holds Try.pinned (OpenSpec.ofChange numRingSpec)

/-- ITS FALSE NEIGHBOUR: 'it returns false'. Refute it at one input. -/
def numRingWrong : ChangeSpec := { name := "numRing", fn := fun _ => fun
  | [d1, d2, d3] => { results := [.lit (.bool false)], args := [d1, d2, d3] }
  | _ => none }
def NumRingWrongFalsely : Prop := numRingRow.holds Try.pinned (OpenSpec.ofChange numRingWrong)

/- THE SECOND FORM. 'bulk': how many values and letters a reading holds, each counted each time it is reached (what is shared counts as often as it is met; a slice's spare places count too). A statement '..UptoSaid' is the law's where the arguments, and the package variables that the reading takes, are together of bulk at most 1048576: NARROWER than '..Said'. Prove '..Said' where nothing that the law and all that it calls make is longer than what came in: it says more and counts as full. Else prove '..UptoSaid'. A law counts once. -/
mutual
def uptoBulk {H : Type} : DataW H → Nat
  | .lit (.string bytes) => bytes.length + 1
  | .lit _ => 1
  | .nil => 1
  | .ptr d => uptoBulk d + 1
  | .slice elems spare => uptoBulkAll elems + uptoBulkAll spare + 1
  | .agg parts => uptoBulkAll parts + 1
  | .iface _ d => uptoBulk d + 1
  | .map entries => uptoBulkEntries entries + 1
  | .held _ => 1
def uptoBulkAll {H : Type} : List (DataW H) → Nat
  | [] => 0
  | d :: r => uptoBulk d + uptoBulkAll r
def uptoBulkEntries {H : Type} : List (Lit × DataW H) → Nat
  | [] => 0
  | x :: r => uptoBulkEntry x + uptoBulkEntries r
def uptoBulkEntry {H : Type} : Lit × DataW H → Nat
  | (.string bytes, d) => bytes.length + uptoBulk d + 1
  | (_, d) => uptoBulk d + 1
 end
def uptoSmall : (H : Type) → List (DataW H) → Bool := fun _ ds => decide (uptoBulkAll ds ≤ 1048576)
def OpenSpec.upto (s : _root_.Go.ChangeSpec) : _root_.Go.OpenSpec := { _root_.Go.OpenSpec.ofChange s with cond := some uptoSmall }

/-- 'covenantlaw01.NumFixes', WHERE WHAT IT READS IS OF BULK AT MOST 1048576: true; the input reads as it did. -/
def numFixesUptoRow : OpenClaim := { program := "ytliebkpcnojpdaa", sum := "b0f2f25bb34dffe598e445842f3e096f1d4c864f13ae03cdb9af46e9aaa38b92", func := "covenant/covenantlaw01.NumFixes", spec := "numFixes", apart := false, narrowed := true }
def NumFixesUptoSaid : Prop := numFixesUptoRow.holds Try.pinned (OpenSpec.upto numFixesSpec)

/-- 'covenantlaw01.NumUnfixes', WHERE WHAT IT READS IS OF BULK AT MOST 1048576: true; the input reads as it did. -/
def numUnfixesUptoRow : OpenClaim := { program := "ytliebkpcnojpdaa", sum := "b0f2f25bb34dffe598e445842f3e096f1d4c864f13ae03cdb9af46e9aaa38b92", func := "covenant/covenantlaw01.NumUnfixes", spec := "numUnfixes", apart := false, narrowed := true }
def NumUnfixesUptoSaid : Prop := numUnfixesUptoRow.holds Try.pinned (OpenSpec.upto numUnfixesSpec)

/-- 'covenantlaw01.NumCrcs', WHERE WHAT IT READS IS OF BULK AT MOST 1048576: true; the input reads as it did. -/
def numCrcsUptoRow : OpenClaim := { program := "ytliebkpcnojpdaa", sum := "b0f2f25bb34dffe598e445842f3e096f1d4c864f13ae03cdb9af46e9aaa38b92", func := "covenant/covenantlaw01.NumCrcs", spec := "numCrcs", apart := false, narrowed := true }
def NumCrcsUptoSaid : Prop := numCrcsUptoRow.holds Try.pinned (OpenSpec.upto numCrcsSpec)

/-- 'covenantlaw01.NumMores', WHERE WHAT IT READS IS OF BULK AT MOST 1048576: true; the input reads as it did. -/
def numMoresUptoRow : OpenClaim := { program := "ytliebkpcnojpdaa", sum := "b0f2f25bb34dffe598e445842f3e096f1d4c864f13ae03cdb9af46e9aaa38b92", func := "covenant/covenantlaw01.NumMores", spec := "numMores", apart := false, narrowed := true }
def NumMoresUptoSaid : Prop := numMoresUptoRow.holds Try.pinned (OpenSpec.upto numMoresSpec)

/-- 'covenantlaw01.NumSpoilt', WHERE WHAT IT READS IS OF BULK AT MOST 1048576: true; the input reads as it did. -/
def numSpoiltUptoRow : OpenClaim := { program := "ytliebkpcnojpdaa", sum := "b0f2f25bb34dffe598e445842f3e096f1d4c864f13ae03cdb9af46e9aaa38b92", func := "covenant/covenantlaw01.NumSpoilt", spec := "numSpoilt", apart := false, narrowed := true }
def NumSpoiltUptoSaid : Prop := numSpoiltUptoRow.holds Try.pinned (OpenSpec.upto numSpoiltSpec)

/-- 'covenantlaw01.NumSums', WHERE WHAT IT READS IS OF BULK AT MOST 1048576: true; the input reads as it did. -/
def numSumsUptoRow : OpenClaim := { program := "ytliebkpcnojpdaa", sum := "b0f2f25bb34dffe598e445842f3e096f1d4c864f13ae03cdb9af46e9aaa38b92", func := "covenant/covenantlaw01.NumSums", spec := "numSums", apart := false, narrowed := true }
def NumSumsUptoSaid : Prop := numSumsUptoRow.holds Try.pinned (OpenSpec.upto numSumsSpec)

/-- 'covenantlaw01.NumRing', WHERE WHAT IT READS IS OF BULK AT MOST 1048576: true; the input reads as it did. -/
def numRingUptoRow : OpenClaim := { program := "ytliebkpcnojpdaa", sum := "b0f2f25bb34dffe598e445842f3e096f1d4c864f13ae03cdb9af46e9aaa38b92", func := "covenant/covenantlaw01.NumRing", spec := "numRing", apart := false, narrowed := true }
def NumRingUptoSaid : Prop := numRingUptoRow.holds Try.pinned (OpenSpec.upto numRingSpec)

end Rows
end Go.Proofs.Ytliebkpcnojpdaa
