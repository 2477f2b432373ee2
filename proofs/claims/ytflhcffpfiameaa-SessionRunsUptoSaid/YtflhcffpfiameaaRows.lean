/-
  No cell of these rows narrows 'for every input' (looked for: loops, veiled, ifaces, maps, wideKeys, modest, calm, conditions, laid).
  DERIVED. THE GIVEN ROWS OF THIS SEAT. 5 by the template 'for every input the law returns true; each argument reads behind the call as it read before'; 0 by the template 'total and deterministic' (their statements: YtflhcffpfiameaaTotals.lean).
  GIVEN WITH THE SEED: the statements are not yours to turn. If you find one false, say at which input.
  Laid BY PROGRAM, IN A SANDBOX (cutbox-rows.mjs): the forced cells as the released guide's own fill.sh prints them over the translation fea54711fdbc60af… (all of the seat's roots in one cut). By AI agents, Wed Nov 11 2026. No macro, syntax, notation, axiom, sorry.
-/
import Derived.Test.YtflhcffpfiameaaChecked
import GoSem.Claim
import GoSem.ClaimJoined
import GoSem.ClaimMapViews
import Derived.JoinedTies
import Derived.KernelRfl
namespace Go.Proofs.Ytflhcffpfiameaa
/- THE CELL 'sum', in the pinned program and in every row, IS THE sha256 OF THE DUMP (.gsa) THAT YtflhcffpfiameaaProg.lean LOADS. Nothing in Lean hashes anything: it is a label: what it is worth is what the hold of that sum in a sandbox is worth. -/
noncomputable def Try.pinned : Pinned := { name := "ytflhcffpfiameaa", sum := "fea54711fdbc60aff96f62b7fa8a4dcb8cb8e0c91439441be1d4b3ae603bdf9b", checked := Try.checked }
namespace Rows
def none {H : Type} : Left H := { results := [], args := [] }

/-- 'covenantlaw23.SessionAborts': WHATEVER THE INPUT: true; the input reads as it did. -/
def sessionAbortsSpec : ChangeSpec := { name := "sessionAborts", fn := fun _ => fun
  | [d1, d2, d3] => { results := [.lit (.bool true)], args := [d1, d2, d3] }
  | _ => none }
def sessionAbortsRow : OpenClaim := { program := "ytflhcffpfiameaa", sum := "fea54711fdbc60aff96f62b7fa8a4dcb8cb8e0c91439441be1d4b3ae603bdf9b", func := "covenant/covenantlaw23.SessionAborts", spec := "sessionAborts", inPlace := ["maps.clone"], apart := false }
def SessionAbortsSaid : Prop := sessionAbortsRow.holds Try.pinned (OpenSpec.ofChange sessionAbortsSpec)

/-- ITS FALSE NEIGHBOUR: 'it returns false'. Refute it at one input. -/
def sessionAbortsWrong : ChangeSpec := { name := "sessionAborts", fn := fun _ => fun
  | [d1, d2, d3] => { results := [.lit (.bool false)], args := [d1, d2, d3] }
  | _ => none }
def SessionAbortsWrongFalsely : Prop := sessionAbortsRow.holds Try.pinned (OpenSpec.ofChange sessionAbortsWrong)

/-- 'covenantlaw23.SessionBounds': WHATEVER THE INPUT: true; the input reads as it did. -/
def sessionBoundsSpec : ChangeSpec := { name := "sessionBounds", fn := fun _ => fun
  | [d1, d2, d3] => { results := [.lit (.bool true)], args := [d1, d2, d3] }
  | _ => none }
def sessionBoundsRow : OpenClaim := { program := "ytflhcffpfiameaa", sum := "fea54711fdbc60aff96f62b7fa8a4dcb8cb8e0c91439441be1d4b3ae603bdf9b", func := "covenant/covenantlaw23.SessionBounds", spec := "sessionBounds", inPlace := ["maps.clone"], unfollowed := true, recurses := true, apart := false }
def SessionBoundsSaid : Prop := sessionBoundsRow.holds Try.pinned (OpenSpec.ofChange sessionBoundsSpec)

/-- ITS FALSE NEIGHBOUR: 'it returns false'. Refute it at one input. -/
def sessionBoundsWrong : ChangeSpec := { name := "sessionBounds", fn := fun _ => fun
  | [d1, d2, d3] => { results := [.lit (.bool false)], args := [d1, d2, d3] }
  | _ => none }
def SessionBoundsWrongFalsely : Prop := sessionBoundsRow.holds Try.pinned (OpenSpec.ofChange sessionBoundsWrong)

/-- 'covenantlaw23.SessionDoes': WHATEVER THE INPUT: true; the input reads as it did. -/
def sessionDoesSpec : ChangeSpec := { name := "sessionDoes", fn := fun _ => fun
  | [d1, d2] => { results := [.lit (.bool true)], args := [d1, d2] }
  | _ => none }
def sessionDoesRow : OpenClaim := { program := "ytflhcffpfiameaa", sum := "fea54711fdbc60aff96f62b7fa8a4dcb8cb8e0c91439441be1d4b3ae603bdf9b", func := "covenant/covenantlaw23.SessionDoes", spec := "sessionDoes", inPlace := ["maps.clone"], unfollowed := true, recurses := true, apart := false }
def SessionDoesSaid : Prop := sessionDoesRow.holds Try.pinned (OpenSpec.ofChange sessionDoesSpec)

/-- ITS FALSE NEIGHBOUR: 'it returns false'. Refute it at one input. -/
def sessionDoesWrong : ChangeSpec := { name := "sessionDoes", fn := fun _ => fun
  | [d1, d2] => { results := [.lit (.bool false)], args := [d1, d2] }
  | _ => none }
def SessionDoesWrongFalsely : Prop := sessionDoesRow.holds Try.pinned (OpenSpec.ofChange sessionDoesWrong)

/-- 'covenantlaw23.SessionRuns': WHATEVER THE INPUT: true; the input reads as it did. -/
def sessionRunsSpec : ChangeSpec := { name := "sessionRuns", fn := fun _ => fun
  | [d1, d2, d3] => { results := [.lit (.bool true)], args := [d1, d2, d3] }
  | _ => none }
def sessionRunsRow : OpenClaim := { program := "ytflhcffpfiameaa", sum := "fea54711fdbc60aff96f62b7fa8a4dcb8cb8e0c91439441be1d4b3ae603bdf9b", func := "covenant/covenantlaw23.SessionRuns", spec := "sessionRuns", inPlace := ["maps.clone"], unfollowed := true, recurses := true, apart := false }
def SessionRunsSaid : Prop := sessionRunsRow.holds Try.pinned (OpenSpec.ofChange sessionRunsSpec)

/-- ITS FALSE NEIGHBOUR: 'it returns false'. Refute it at one input. -/
def sessionRunsWrong : ChangeSpec := { name := "sessionRuns", fn := fun _ => fun
  | [d1, d2, d3] => { results := [.lit (.bool false)], args := [d1, d2, d3] }
  | _ => none }
def SessionRunsWrongFalsely : Prop := sessionRunsRow.holds Try.pinned (OpenSpec.ofChange sessionRunsWrong)

/-- 'covenantlaw23.SessionNone': WHATEVER THE INPUT: true; the input reads as it did. -/
def sessionNoneSpec : ChangeSpec := { name := "sessionNone", fn := fun _ => fun
  | [d] => { results := [.lit (.bool true)], args := [d] }
  | _ => none }
def sessionNoneRow : OpenClaim := { program := "ytflhcffpfiameaa", sum := "fea54711fdbc60aff96f62b7fa8a4dcb8cb8e0c91439441be1d4b3ae603bdf9b", func := "covenant/covenantlaw23.SessionNone", spec := "sessionNone", inPlace := ["maps.clone"], unfollowed := true, recurses := true, apart := false }
def SessionNoneSaid : Prop := sessionNoneRow.holds Try.pinned (OpenSpec.ofChange sessionNoneSpec)

/-- ITS FALSE NEIGHBOUR: 'it returns false'. Refute it at one input. -/
def sessionNoneWrong : ChangeSpec := { name := "sessionNone", fn := fun _ => fun
  | [d] => { results := [.lit (.bool false)], args := [d] }
  | _ => none }
def SessionNoneWrongFalsely : Prop := sessionNoneRow.holds Try.pinned (OpenSpec.ofChange sessionNoneWrong)

/- THE SECOND FORM. 'bulk': how many values and letters a reading holds, each counted each time it is reached (what is shared counts as often as it is met; a slice's spare places count too). A statement '..UptoSaid' is the law's where the arguments, and the package variables that the reading takes, are together of bulk at most 1048576: NARROWER than '..Said'. Prove '..Said' where nothing that the law and all that it calls make is longer than what came in: it says more and counts as full. Else prove '..UptoSaid'. A law counts once. -/
mutual
def uptoBulk {H : Type} : DataW H → Nat
  | .lit (.string bytes) => bytes.length + 1
  | .lit _ => 1
  | .nil => 1
  | .ptr d => uptoBulk d + 1
  | .slice elems spare => uptoBulkAll elems + uptoBulkAll spare + 1
  | .agg parts => uptoBulkAll parts + 1
  | .iface _ d => uptoBulk d + 1
  | .map entries => uptoBulkEntries entries + 1
  | .held _ => 1
def uptoBulkAll {H : Type} : List (DataW H) → Nat
  | [] => 0
  | d :: r => uptoBulk d + uptoBulkAll r
def uptoBulkEntries {H : Type} : List (Lit × DataW H) → Nat
  | [] => 0
  | x :: r => uptoBulkEntry x + uptoBulkEntries r
def uptoBulkEntry {H : Type} : Lit × DataW H → Nat
  | (.string bytes, d) => bytes.length + uptoBulk d + 1
  | (_, d) => uptoBulk d + 1
 end
def uptoSmall : (H : Type) → List (DataW H) → Bool := fun _ ds => decide (uptoBulkAll ds ≤ 1048576)
def OpenSpec.upto (s : _root_.Go.ChangeSpec) : _root_.Go.OpenSpec := { _root_.Go.OpenSpec.ofChange s with cond := some uptoSmall }

/-- 'covenantlaw23.SessionAborts', WHERE WHAT IT READS IS OF BULK AT MOST 1048576: true; the input reads as it did. -/
def sessionAbortsUptoRow : OpenClaim := { program := "ytflhcffpfiameaa", sum := "fea54711fdbc60aff96f62b7fa8a4dcb8cb8e0c91439441be1d4b3ae603bdf9b", func := "covenant/covenantlaw23.SessionAborts", spec := "sessionAborts", inPlace := ["maps.clone"], apart := false, narrowed := true }
def SessionAbortsUptoSaid : Prop := sessionAbortsUptoRow.holds Try.pinned (OpenSpec.upto sessionAbortsSpec)

/-- 'covenantlaw23.SessionBounds', WHERE WHAT IT READS IS OF BULK AT MOST 1048576: true; the input reads as it did. -/
def sessionBoundsUptoRow : OpenClaim := { program := "ytflhcffpfiameaa", sum := "fea54711fdbc60aff96f62b7fa8a4dcb8cb8e0c91439441be1d4b3ae603bdf9b", func := "covenant/covenantlaw23.SessionBounds", spec := "sessionBounds", inPlace := ["maps.clone"], unfollowed := true, recurses := true, apart := false, narrowed := true }
def SessionBoundsUptoSaid : Prop := sessionBoundsUptoRow.holds Try.pinned (OpenSpec.upto sessionBoundsSpec)

/-- 'covenantlaw23.SessionDoes', WHERE WHAT IT READS IS OF BULK AT MOST 1048576: true; the input reads as it did. -/
def sessionDoesUptoRow : OpenClaim := { program := "ytflhcffpfiameaa", sum := "fea54711fdbc60aff96f62b7fa8a4dcb8cb8e0c91439441be1d4b3ae603bdf9b", func := "covenant/covenantlaw23.SessionDoes", spec := "sessionDoes", inPlace := ["maps.clone"], unfollowed := true, recurses := true, apart := false, narrowed := true }
def SessionDoesUptoSaid : Prop := sessionDoesUptoRow.holds Try.pinned (OpenSpec.upto sessionDoesSpec)

/-- 'covenantlaw23.SessionRuns', WHERE WHAT IT READS IS OF BULK AT MOST 1048576: true; the input reads as it did. -/
def sessionRunsUptoRow : OpenClaim := { program := "ytflhcffpfiameaa", sum := "fea54711fdbc60aff96f62b7fa8a4dcb8cb8e0c91439441be1d4b3ae603bdf9b", func := "covenant/covenantlaw23.SessionRuns", spec := "sessionRuns", inPlace := ["maps.clone"], unfollowed := true, recurses := true, apart := false, narrowed := true }
def SessionRunsUptoSaid : Prop := sessionRunsUptoRow.holds Try.pinned (OpenSpec.upto sessionRunsSpec)

/-- 'covenantlaw23.SessionNone', WHERE WHAT IT READS IS OF BULK AT MOST 1048576: true; the input reads as it did. -/
def sessionNoneUptoRow : OpenClaim := { program := "ytflhcffpfiameaa", sum := "fea54711fdbc60aff96f62b7fa8a4dcb8cb8e0c91439441be1d4b3ae603bdf9b", func := "covenant/covenantlaw23.SessionNone", spec := "sessionNone", inPlace := ["maps.clone"], unfollowed := true, recurses := true, apart := false, narrowed := true }
def SessionNoneUptoSaid : Prop := sessionNoneUptoRow.holds Try.pinned (OpenSpec.upto sessionNoneSpec)

end Rows
end Go.Proofs.Ytflhcffpfiameaa
