/-
  NARROWER THAN 'FOR EVERY INPUT', by the rows' own cells (each row's printed sentence says how): AofNobody: laid · AofTorn: laid · AofTwice: laid · AofFinds: laid.
  DERIVED. THE GIVEN ROWS OF THIS SEAT. 4 by the template 'for every input the law returns true; each argument reads behind the call as it read before'; 0 by the template 'total and deterministic' (their statements: YtfbjmhipjfjaeaaGreatDoorTotals.lean).
  GIVEN WITH THE SEED: the statements are not yours to turn. If you find one false, say at which input.
  Laid BY PROGRAM, IN A SANDBOX (cutbox-rows.mjs): the forced cells as the released guide's own fill.sh prints them over the translation e366dd1164dc5de5… (all of the seat's roots in one cut). By AI agents, Wed Nov 11 2026. No macro, syntax, notation, axiom, sorry.
-/
import Derived.Test.YtfbjmhipjfjaeaaGreatDoorChecked
import GoSem.Claim
import GoSem.ClaimJoined
import GoSem.ClaimMapViews
import Derived.JoinedTies
import Derived.KernelRfl
namespace Go.Proofs.YtfbjmhipjfjaeaaGreatDoor
/- THE CELL 'sum', in the pinned program and in every row, IS THE sha256 OF THE DUMP (.gsa) THAT YtfbjmhipjfjaeaaGreatDoorProg.lean LOADS. Nothing in Lean hashes anything: it is a label: what it is worth is what the hold of that sum in a sandbox is worth. -/
noncomputable def Tryz.pinned : Pinned := { name := "ytfbjmhipjfjaeaagreatdoor", sum := "e366dd1164dc5de5fb06f575106360a35b589400be4d2332a805271cdab93f4a", checked := Tryz.checked }
namespace Rows
def none {H : Type} : Left H := { results := [], args := [] }

/- WHAT THE LISTED PACKAGE-LEVEL VARIABLES READ AS WHEN THE CALL BEGINS. Each datum BY PROGRAM (the guide's laid-datum.mjs) off the statement by which the dump's own 'gosem.cut.vars' lays the variable. In a bare row this is a premise. The card (YtfbjmhipjfjaeaaGreatDoorCards.lean) ties it to the program's text. -/
def laid_errors_errorType {H : Type} : DataW H := .iface "internal/reflectlite.rtype" (.agg [.ptr (.lit (.string [101, 114, 114, 111, 114]))])
def laid_covenant_aof_errBroken {H : Type} : DataW H := .iface "*errors.errorString" (.ptr (.agg [.lit (.string [116, 104, 101, 32, 108, 111, 103, 32, 105, 115, 32, 98, 114, 111, 107, 101, 110, 32, 111, 114, 32, 99, 108, 111, 115, 101, 100])]))
def laid_covenant_aof_errLog {H : Type} : DataW H := .iface "*errors.errorString" (.ptr (.agg [.lit (.string [110, 111, 32, 108, 111, 103])]))

/-- 'covenantlaw26.AofNobody': WHATEVER THE INPUT: true; the input reads as it did. -/
def aofNobodySpec : ChangeSpec := { name := "aofNobody", fn := fun _ => fun
  | [d1, d2] => { results := [.lit (.bool true)], args := [d1, d2] }
  | _ => none }
def aofNobodyRow : OpenClaim := { program := "ytfbjmhipjfjaeaagreatdoor", sum := "e366dd1164dc5de5fb06f575106360a35b589400be4d2332a805271cdab93f4a", func := "covenant/covenantlaw26.AofNobody", spec := "aofNobody", inPlace := ["maps.clone", "internal/reflectlite.TypeOf", "internal/reflectlite.ValueOf", "(internal/reflectlite.Value).Type", "(internal/reflectlite.Value).IsNil", "(internal/reflectlite.Value).Elem", "(internal/reflectlite.Value).Set"], unfollowed := true, recurses := true, named := ["covenant/aof.errLog", "covenant/aof.errBroken", "errors.errorType"], apart := false, laid := [("errors.errorType", laid_errors_errorType), ("covenant/aof.errBroken", laid_covenant_aof_errBroken), ("covenant/aof.errLog", laid_covenant_aof_errLog)] }
def AofNobodySaid : Prop := aofNobodyRow.holds Tryz.pinned (OpenSpec.ofChange aofNobodySpec)

/-- ITS FALSE NEIGHBOUR: 'it returns false'. Refute it at one input. -/
def aofNobodyWrong : ChangeSpec := { name := "aofNobody", fn := fun _ => fun
  | [d1, d2] => { results := [.lit (.bool false)], args := [d1, d2] }
  | _ => none }
def AofNobodyWrongFalsely : Prop := aofNobodyRow.holds Tryz.pinned (OpenSpec.ofChange aofNobodyWrong)

/-- 'covenantlaw26.AofTorn': WHATEVER THE INPUT: true; the input reads as it did. -/
def aofTornSpec : ChangeSpec := { name := "aofTorn", fn := fun _ => fun
  | [d1, d2] => { results := [.lit (.bool true)], args := [d1, d2] }
  | _ => none }
def aofTornRow : OpenClaim := { program := "ytfbjmhipjfjaeaagreatdoor", sum := "e366dd1164dc5de5fb06f575106360a35b589400be4d2332a805271cdab93f4a", func := "covenant/covenantlaw26.AofTorn", spec := "aofTorn", inPlace := ["maps.clone", "internal/reflectlite.TypeOf", "internal/reflectlite.ValueOf", "(internal/reflectlite.Value).Type", "(internal/reflectlite.Value).IsNil", "(internal/reflectlite.Value).Elem", "(internal/reflectlite.Value).Set"], unfollowed := true, recurses := true, named := ["covenant/aof.errLog", "covenant/aof.errBroken", "errors.errorType"], apart := false, laid := [("errors.errorType", laid_errors_errorType), ("covenant/aof.errBroken", laid_covenant_aof_errBroken), ("covenant/aof.errLog", laid_covenant_aof_errLog)] }
def AofTornSaid : Prop := aofTornRow.holds Tryz.pinned (OpenSpec.ofChange aofTornSpec)

/-- ITS FALSE NEIGHBOUR: 'it returns false'. Refute it at one input. -/
def aofTornWrong : ChangeSpec := { name := "aofTorn", fn := fun _ => fun
  | [d1, d2] => { results := [.lit (.bool false)], args := [d1, d2] }
  | _ => none }
def AofTornWrongFalsely : Prop := aofTornRow.holds Tryz.pinned (OpenSpec.ofChange aofTornWrong)

/-- 'covenantlaw26.AofTwice': WHATEVER THE INPUT: true; the input reads as it did. -/
def aofTwiceSpec : ChangeSpec := { name := "aofTwice", fn := fun _ => fun
  | [d] => { results := [.lit (.bool true)], args := [d] }
  | _ => none }
def aofTwiceRow : OpenClaim := { program := "ytfbjmhipjfjaeaagreatdoor", sum := "e366dd1164dc5de5fb06f575106360a35b589400be4d2332a805271cdab93f4a", func := "covenant/covenantlaw26.AofTwice", spec := "aofTwice", inPlace := ["maps.clone", "internal/reflectlite.TypeOf", "internal/reflectlite.ValueOf", "(internal/reflectlite.Value).Type", "(internal/reflectlite.Value).IsNil", "(internal/reflectlite.Value).Elem", "(internal/reflectlite.Value).Set"], unfollowed := true, recurses := true, named := ["covenant/aof.errLog", "covenant/aof.errBroken", "errors.errorType"], apart := false, laid := [("errors.errorType", laid_errors_errorType), ("covenant/aof.errBroken", laid_covenant_aof_errBroken), ("covenant/aof.errLog", laid_covenant_aof_errLog)] }
def AofTwiceSaid : Prop := aofTwiceRow.holds Tryz.pinned (OpenSpec.ofChange aofTwiceSpec)

/-- ITS FALSE NEIGHBOUR: 'it returns false'. Refute it at one input. -/
def aofTwiceWrong : ChangeSpec := { name := "aofTwice", fn := fun _ => fun
  | [d] => { results := [.lit (.bool false)], args := [d] }
  | _ => none }
def AofTwiceWrongFalsely : Prop := aofTwiceRow.holds Tryz.pinned (OpenSpec.ofChange aofTwiceWrong)

/-- 'covenantlaw26.AofFinds': WHATEVER THE INPUT: true; the input reads as it did. -/
def aofFindsSpec : ChangeSpec := { name := "aofFinds", fn := fun _ => fun
  | [d] => { results := [.lit (.bool true)], args := [d] }
  | _ => none }
def aofFindsRow : OpenClaim := { program := "ytfbjmhipjfjaeaagreatdoor", sum := "e366dd1164dc5de5fb06f575106360a35b589400be4d2332a805271cdab93f4a", func := "covenant/covenantlaw26.AofFinds", spec := "aofFinds", inPlace := ["maps.clone", "internal/reflectlite.TypeOf", "internal/reflectlite.ValueOf", "(internal/reflectlite.Value).Type", "(internal/reflectlite.Value).IsNil", "(internal/reflectlite.Value).Elem", "(internal/reflectlite.Value).Set"], unfollowed := true, recurses := true, named := ["covenant/aof.errLog", "covenant/aof.errBroken", "errors.errorType"], apart := false, laid := [("errors.errorType", laid_errors_errorType), ("covenant/aof.errBroken", laid_covenant_aof_errBroken), ("covenant/aof.errLog", laid_covenant_aof_errLog)] }
def AofFindsSaid : Prop := aofFindsRow.holds Tryz.pinned (OpenSpec.ofChange aofFindsSpec)

/-- ITS FALSE NEIGHBOUR: 'it returns false'. Refute it at one input. -/
def aofFindsWrong : ChangeSpec := { name := "aofFinds", fn := fun _ => fun
  | [d] => { results := [.lit (.bool false)], args := [d] }
  | _ => none }
def AofFindsWrongFalsely : Prop := aofFindsRow.holds Tryz.pinned (OpenSpec.ofChange aofFindsWrong)

/- THE SECOND FORM. 'bulk': how many values and letters a reading holds, each counted each time it is reached (what is shared counts as often as it is met; a slice's spare places count too). A statement '..UptoSaid' is the law's where the arguments, and the package variables that the reading takes, are together of bulk at most 1048576: NARROWER than '..Said'. Prove '..Said' where nothing that the law and all that it calls make is longer than what came in: it says more and counts as full. Else prove '..UptoSaid'. A law counts once. -/
mutual
def uptoBulk {H : Type} : DataW H → Nat
  | .lit (.string bytes) => bytes.length + 1
  | .lit _ => 1
  | .nil => 1
  | .ptr d => uptoBulk d + 1
  | .slice elems spare => uptoBulkAll elems + uptoBulkAll spare + 1
  | .agg parts => uptoBulkAll parts + 1
  | .iface _ d => uptoBulk d + 1
  | .map entries => uptoBulkEntries entries + 1
  | .held _ => 1
def uptoBulkAll {H : Type} : List (DataW H) → Nat
  | [] => 0
  | d :: r => uptoBulk d + uptoBulkAll r
def uptoBulkEntries {H : Type} : List (Lit × DataW H) → Nat
  | [] => 0
  | x :: r => uptoBulkEntry x + uptoBulkEntries r
def uptoBulkEntry {H : Type} : Lit × DataW H → Nat
  | (.string bytes, d) => bytes.length + uptoBulk d + 1
  | (_, d) => uptoBulk d + 1
 end
def uptoSmall : (H : Type) → List (DataW H) → Bool := fun _ ds => decide (uptoBulkAll ds ≤ 1048576)
def OpenSpec.upto (s : _root_.Go.ChangeSpec) : _root_.Go.OpenSpec := { _root_.Go.OpenSpec.ofChange s with cond := some uptoSmall }

/-- 'covenantlaw26.AofNobody', WHERE WHAT IT READS IS OF BULK AT MOST 1048576: true; the input reads as it did. -/
def aofNobodyUptoRow : OpenClaim := { program := "ytfbjmhipjfjaeaagreatdoor", sum := "e366dd1164dc5de5fb06f575106360a35b589400be4d2332a805271cdab93f4a", func := "covenant/covenantlaw26.AofNobody", spec := "aofNobody", inPlace := ["maps.clone", "internal/reflectlite.TypeOf", "internal/reflectlite.ValueOf", "(internal/reflectlite.Value).Type", "(internal/reflectlite.Value).IsNil", "(internal/reflectlite.Value).Elem", "(internal/reflectlite.Value).Set"], unfollowed := true, recurses := true, named := ["covenant/aof.errLog", "covenant/aof.errBroken", "errors.errorType"], apart := false, laid := [("errors.errorType", laid_errors_errorType), ("covenant/aof.errBroken", laid_covenant_aof_errBroken), ("covenant/aof.errLog", laid_covenant_aof_errLog)], narrowed := true }
def AofNobodyUptoSaid : Prop := aofNobodyUptoRow.holds Tryz.pinned (OpenSpec.upto aofNobodySpec)

/-- 'covenantlaw26.AofTorn', WHERE WHAT IT READS IS OF BULK AT MOST 1048576: true; the input reads as it did. -/
def aofTornUptoRow : OpenClaim := { program := "ytfbjmhipjfjaeaagreatdoor", sum := "e366dd1164dc5de5fb06f575106360a35b589400be4d2332a805271cdab93f4a", func := "covenant/covenantlaw26.AofTorn", spec := "aofTorn", inPlace := ["maps.clone", "internal/reflectlite.TypeOf", "internal/reflectlite.ValueOf", "(internal/reflectlite.Value).Type", "(internal/reflectlite.Value).IsNil", "(internal/reflectlite.Value).Elem", "(internal/reflectlite.Value).Set"], unfollowed := true, recurses := true, named := ["covenant/aof.errLog", "covenant/aof.errBroken", "errors.errorType"], apart := false, laid := [("errors.errorType", laid_errors_errorType), ("covenant/aof.errBroken", laid_covenant_aof_errBroken), ("covenant/aof.errLog", laid_covenant_aof_errLog)], narrowed := true }
def AofTornUptoSaid : Prop := aofTornUptoRow.holds Tryz.pinned (OpenSpec.upto aofTornSpec)

/-- 'covenantlaw26.AofTwice', WHERE WHAT IT READS IS OF BULK AT MOST 1048576: true; the input reads as it did. -/
def aofTwiceUptoRow : OpenClaim := { program := "ytfbjmhipjfjaeaagreatdoor", sum := "e366dd1164dc5de5fb06f575106360a35b589400be4d2332a805271cdab93f4a", func := "covenant/covenantlaw26.AofTwice", spec := "aofTwice", inPlace := ["maps.clone", "internal/reflectlite.TypeOf", "internal/reflectlite.ValueOf", "(internal/reflectlite.Value).Type", "(internal/reflectlite.Value).IsNil", "(internal/reflectlite.Value).Elem", "(internal/reflectlite.Value).Set"], unfollowed := true, recurses := true, named := ["covenant/aof.errLog", "covenant/aof.errBroken", "errors.errorType"], apart := false, laid := [("errors.errorType", laid_errors_errorType), ("covenant/aof.errBroken", laid_covenant_aof_errBroken), ("covenant/aof.errLog", laid_covenant_aof_errLog)], narrowed := true }
def AofTwiceUptoSaid : Prop := aofTwiceUptoRow.holds Tryz.pinned (OpenSpec.upto aofTwiceSpec)

/-- 'covenantlaw26.AofFinds', WHERE WHAT IT READS IS OF BULK AT MOST 1048576: true; the input reads as it did. -/
def aofFindsUptoRow : OpenClaim := { program := "ytfbjmhipjfjaeaagreatdoor", sum := "e366dd1164dc5de5fb06f575106360a35b589400be4d2332a805271cdab93f4a", func := "covenant/covenantlaw26.AofFinds", spec := "aofFinds", inPlace := ["maps.clone", "internal/reflectlite.TypeOf", "internal/reflectlite.ValueOf", "(internal/reflectlite.Value).Type", "(internal/reflectlite.Value).IsNil", "(internal/reflectlite.Value).Elem", "(internal/reflectlite.Value).Set"], unfollowed := true, recurses := true, named := ["covenant/aof.errLog", "covenant/aof.errBroken", "errors.errorType"], apart := false, laid := [("errors.errorType", laid_errors_errorType), ("covenant/aof.errBroken", laid_covenant_aof_errBroken), ("covenant/aof.errLog", laid_covenant_aof_errLog)], narrowed := true }
def AofFindsUptoSaid : Prop := aofFindsUptoRow.holds Tryz.pinned (OpenSpec.upto aofFindsSpec)

end Rows
end Go.Proofs.YtfbjmhipjfjaeaaGreatDoor
