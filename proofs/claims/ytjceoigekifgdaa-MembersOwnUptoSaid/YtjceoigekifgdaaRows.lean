/-
  No cell of these rows narrows 'for every input' (looked for: loops, veiled, ifaces, maps, wideKeys, modest, calm, conditions, laid).
  DERIVED. THE GIVEN ROWS OF THIS SEAT. 7 by the template 'for every input the law returns true; each argument reads behind the call as it read before'; 0 by the template 'total and deterministic' (their statements: YtjceoigekifgdaaTotals.lean).
  GIVEN WITH THE SEED: the statements are not yours to turn. If you find one false, say at which input.
  Laid BY PROGRAM, IN A SANDBOX (cutbox-rows.mjs): the forced cells as the released guide's own fill.sh prints them over the translation fc13ce1215a1aa49… (all of the seat's roots in one cut). By AI agents, Wed Nov 11 2026. No macro, syntax, notation, axiom, sorry.
-/
import Derived.Test.YtjceoigekifgdaaChecked
import GoSem.Claim
import GoSem.ClaimJoined
import GoSem.ClaimMapViews
import Derived.JoinedTies
import Derived.KernelRfl
namespace Go.Proofs.Ytjceoigekifgdaa
/- THE CELL 'sum', in the pinned program and in every row, IS THE sha256 OF THE DUMP (.gsa) THAT YtjceoigekifgdaaProg.lean LOADS. Nothing in Lean hashes anything: it is a label: what it is worth is what the hold of that sum in a sandbox is worth. -/
noncomputable def Try.pinned : Pinned := { name := "ytjceoigekifgdaa", sum := "fc13ce1215a1aa498422661aa54599b930b9da9cdbb29aab295b4dd473a2222e", checked := Try.checked }
namespace Rows
def none {H : Type} : Left H := { results := [], args := [] }

/-- 'covenantlaw11.MembersAdds': WHATEVER THE INPUT: true; the input reads as it did. -/
def membersAddsSpec : ChangeSpec := { name := "membersAdds", fn := fun _ => fun
  | [d1, d2] => { results := [.lit (.bool true)], args := [d1, d2] }
  | _ => none }
def membersAddsRow : OpenClaim := { program := "ytjceoigekifgdaa", sum := "fc13ce1215a1aa498422661aa54599b930b9da9cdbb29aab295b4dd473a2222e", func := "covenant/covenantlaw11.MembersAdds", spec := "membersAdds", recurses := true, apart := false }
def MembersAddsSaid : Prop := membersAddsRow.holds Try.pinned (OpenSpec.ofChange membersAddsSpec)

/-- ITS FALSE NEIGHBOUR: 'it returns false'. Refute it at one input. -/
def membersAddsWrong : ChangeSpec := { name := "membersAdds", fn := fun _ => fun
  | [d1, d2] => { results := [.lit (.bool false)], args := [d1, d2] }
  | _ => none }
def MembersAddsWrongFalsely : Prop := membersAddsRow.holds Try.pinned (OpenSpec.ofChange membersAddsWrong)

/-- 'covenantlaw11.MembersAfters': WHATEVER THE INPUT: true; the input reads as it did. -/
def membersAftersSpec : ChangeSpec := { name := "membersAfters", fn := fun _ => fun
  | [d1, d2, d3] => { results := [.lit (.bool true)], args := [d1, d2, d3] }
  | _ => none }
def membersAftersRow : OpenClaim := { program := "ytjceoigekifgdaa", sum := "fc13ce1215a1aa498422661aa54599b930b9da9cdbb29aab295b4dd473a2222e", func := "covenant/covenantlaw11.MembersAfters", spec := "membersAfters", recurses := true, apart := false }
def MembersAftersSaid : Prop := membersAftersRow.holds Try.pinned (OpenSpec.ofChange membersAftersSpec)

/-- ITS FALSE NEIGHBOUR: 'it returns false'. Refute it at one input. -/
def membersAftersWrong : ChangeSpec := { name := "membersAfters", fn := fun _ => fun
  | [d1, d2, d3] => { results := [.lit (.bool false)], args := [d1, d2, d3] }
  | _ => none }
def MembersAftersWrongFalsely : Prop := membersAftersRow.holds Try.pinned (OpenSpec.ofChange membersAftersWrong)

/-- 'covenantlaw11.MembersScans': WHATEVER THE INPUT: true; the input reads as it did. -/
def membersScansSpec : ChangeSpec := { name := "membersScans", fn := fun _ => fun
  | [d1, d2] => { results := [.lit (.bool true)], args := [d1, d2] }
  | _ => none }
def membersScansRow : OpenClaim := { program := "ytjceoigekifgdaa", sum := "fc13ce1215a1aa498422661aa54599b930b9da9cdbb29aab295b4dd473a2222e", func := "covenant/covenantlaw11.MembersScans", spec := "membersScans", recurses := true, apart := false }
def MembersScansSaid : Prop := membersScansRow.holds Try.pinned (OpenSpec.ofChange membersScansSpec)

/-- ITS FALSE NEIGHBOUR: 'it returns false'. Refute it at one input. -/
def membersScansWrong : ChangeSpec := { name := "membersScans", fn := fun _ => fun
  | [d1, d2] => { results := [.lit (.bool false)], args := [d1, d2] }
  | _ => none }
def MembersScansWrongFalsely : Prop := membersScansRow.holds Try.pinned (OpenSpec.ofChange membersScansWrong)

/-- 'covenantlaw11.MembersSets': WHATEVER THE INPUT: true; the input reads as it did. -/
def membersSetsSpec : ChangeSpec := { name := "membersSets", fn := fun _ => fun
  | [d1, d2] => { results := [.lit (.bool true)], args := [d1, d2] }
  | _ => none }
def membersSetsRow : OpenClaim := { program := "ytjceoigekifgdaa", sum := "fc13ce1215a1aa498422661aa54599b930b9da9cdbb29aab295b4dd473a2222e", func := "covenant/covenantlaw11.MembersSets", spec := "membersSets", recurses := true, apart := false }
def MembersSetsSaid : Prop := membersSetsRow.holds Try.pinned (OpenSpec.ofChange membersSetsSpec)

/-- ITS FALSE NEIGHBOUR: 'it returns false'. Refute it at one input. -/
def membersSetsWrong : ChangeSpec := { name := "membersSets", fn := fun _ => fun
  | [d1, d2] => { results := [.lit (.bool false)], args := [d1, d2] }
  | _ => none }
def MembersSetsWrongFalsely : Prop := membersSetsRow.holds Try.pinned (OpenSpec.ofChange membersSetsWrong)

/-- 'covenantlaw11.MembersJoins': WHATEVER THE INPUT: true; the input reads as it did. -/
def membersJoinsSpec : ChangeSpec := { name := "membersJoins", fn := fun _ => fun
  | [d1, d2] => { results := [.lit (.bool true)], args := [d1, d2] }
  | _ => none }
def membersJoinsRow : OpenClaim := { program := "ytjceoigekifgdaa", sum := "fc13ce1215a1aa498422661aa54599b930b9da9cdbb29aab295b4dd473a2222e", func := "covenant/covenantlaw11.MembersJoins", spec := "membersJoins", recurses := true, apart := false }
def MembersJoinsSaid : Prop := membersJoinsRow.holds Try.pinned (OpenSpec.ofChange membersJoinsSpec)

/-- ITS FALSE NEIGHBOUR: 'it returns false'. Refute it at one input. -/
def membersJoinsWrong : ChangeSpec := { name := "membersJoins", fn := fun _ => fun
  | [d1, d2] => { results := [.lit (.bool false)], args := [d1, d2] }
  | _ => none }
def MembersJoinsWrongFalsely : Prop := membersJoinsRow.holds Try.pinned (OpenSpec.ofChange membersJoinsWrong)

/-- 'covenantlaw11.MembersOwn': WHATEVER THE INPUT: true; the input reads as it did. -/
def membersOwnSpec : ChangeSpec := { name := "membersOwn", fn := fun _ => fun
  | [d1, d2] => { results := [.lit (.bool true)], args := [d1, d2] }
  | _ => none }
def membersOwnRow : OpenClaim := { program := "ytjceoigekifgdaa", sum := "fc13ce1215a1aa498422661aa54599b930b9da9cdbb29aab295b4dd473a2222e", func := "covenant/covenantlaw11.MembersOwn", spec := "membersOwn", recurses := true, apart := false }
def MembersOwnSaid : Prop := membersOwnRow.holds Try.pinned (OpenSpec.ofChange membersOwnSpec)

/-- ITS FALSE NEIGHBOUR: 'it returns false'. Refute it at one input. -/
def membersOwnWrong : ChangeSpec := { name := "membersOwn", fn := fun _ => fun
  | [d1, d2] => { results := [.lit (.bool false)], args := [d1, d2] }
  | _ => none }
def MembersOwnWrongFalsely : Prop := membersOwnRow.holds Try.pinned (OpenSpec.ofChange membersOwnWrong)

/-- 'covenantlaw11.MembersRules': WHATEVER THE INPUT: true; the input reads as it did. -/
def membersRulesSpec : ChangeSpec := { name := "membersRules", fn := fun _ => fun
  | [d1, d2, d3] => { results := [.lit (.bool true)], args := [d1, d2, d3] }
  | _ => none }
def membersRulesRow : OpenClaim := { program := "ytjceoigekifgdaa", sum := "fc13ce1215a1aa498422661aa54599b930b9da9cdbb29aab295b4dd473a2222e", func := "covenant/covenantlaw11.MembersRules", spec := "membersRules", recurses := true, apart := false }
def MembersRulesSaid : Prop := membersRulesRow.holds Try.pinned (OpenSpec.ofChange membersRulesSpec)

/-- ITS FALSE NEIGHBOUR: 'it returns false'. Refute it at one input. -/
def membersRulesWrong : ChangeSpec := { name := "membersRules", fn := fun _ => fun
  | [d1, d2, d3] => { results := [.lit (.bool false)], args := [d1, d2, d3] }
  | _ => none }
def MembersRulesWrongFalsely : Prop := membersRulesRow.holds Try.pinned (OpenSpec.ofChange membersRulesWrong)

/- THE SECOND FORM. 'bulk': how many values and letters a reading holds, each counted each time it is reached (what is shared counts as often as it is met; a slice's spare places count too). A statement '..UptoSaid' is the law's where the arguments, and the package variables that the reading takes, are together of bulk at most 1048576: NARROWER than '..Said'. Prove '..Said' where nothing that the law and all that it calls make is longer than what came in: it says more and counts as full. Else prove '..UptoSaid'. A law counts once. -/
mutual
def uptoBulk {H : Type} : DataW H → Nat
  | .lit (.string bytes) => bytes.length + 1
  | .lit _ => 1
  | .nil => 1
  | .ptr d => uptoBulk d + 1
  | .slice elems spare => uptoBulkAll elems + uptoBulkAll spare + 1
  | .agg parts => uptoBulkAll parts + 1
  | .iface _ d => uptoBulk d + 1
  | .map entries => uptoBulkEntries entries + 1
  | .held _ => 1
def uptoBulkAll {H : Type} : List (DataW H) → Nat
  | [] => 0
  | d :: r => uptoBulk d + uptoBulkAll r
def uptoBulkEntries {H : Type} : List (Lit × DataW H) → Nat
  | [] => 0
  | x :: r => uptoBulkEntry x + uptoBulkEntries r
def uptoBulkEntry {H : Type} : Lit × DataW H → Nat
  | (.string bytes, d) => bytes.length + uptoBulk d + 1
  | (_, d) => uptoBulk d + 1
 end
def uptoSmall : (H : Type) → List (DataW H) → Bool := fun _ ds => decide (uptoBulkAll ds ≤ 1048576)
def OpenSpec.upto (s : _root_.Go.ChangeSpec) : _root_.Go.OpenSpec := { _root_.Go.OpenSpec.ofChange s with cond := some uptoSmall }

/-- 'covenantlaw11.MembersAdds', WHERE WHAT IT READS IS OF BULK AT MOST 1048576: true; the input reads as it did. -/
def membersAddsUptoRow : OpenClaim := { program := "ytjceoigekifgdaa", sum := "fc13ce1215a1aa498422661aa54599b930b9da9cdbb29aab295b4dd473a2222e", func := "covenant/covenantlaw11.MembersAdds", spec := "membersAdds", recurses := true, apart := false, narrowed := true }
def MembersAddsUptoSaid : Prop := membersAddsUptoRow.holds Try.pinned (OpenSpec.upto membersAddsSpec)

/-- 'covenantlaw11.MembersAfters', WHERE WHAT IT READS IS OF BULK AT MOST 1048576: true; the input reads as it did. -/
def membersAftersUptoRow : OpenClaim := { program := "ytjceoigekifgdaa", sum := "fc13ce1215a1aa498422661aa54599b930b9da9cdbb29aab295b4dd473a2222e", func := "covenant/covenantlaw11.MembersAfters", spec := "membersAfters", recurses := true, apart := false, narrowed := true }
def MembersAftersUptoSaid : Prop := membersAftersUptoRow.holds Try.pinned (OpenSpec.upto membersAftersSpec)

/-- 'covenantlaw11.MembersScans', WHERE WHAT IT READS IS OF BULK AT MOST 1048576: true; the input reads as it did. -/
def membersScansUptoRow : OpenClaim := { program := "ytjceoigekifgdaa", sum := "fc13ce1215a1aa498422661aa54599b930b9da9cdbb29aab295b4dd473a2222e", func := "covenant/covenantlaw11.MembersScans", spec := "membersScans", recurses := true, apart := false, narrowed := true }
def MembersScansUptoSaid : Prop := membersScansUptoRow.holds Try.pinned (OpenSpec.upto membersScansSpec)

/-- 'covenantlaw11.MembersSets', WHERE WHAT IT READS IS OF BULK AT MOST 1048576: true; the input reads as it did. -/
def membersSetsUptoRow : OpenClaim := { program := "ytjceoigekifgdaa", sum := "fc13ce1215a1aa498422661aa54599b930b9da9cdbb29aab295b4dd473a2222e", func := "covenant/covenantlaw11.MembersSets", spec := "membersSets", recurses := true, apart := false, narrowed := true }
def MembersSetsUptoSaid : Prop := membersSetsUptoRow.holds Try.pinned (OpenSpec.upto membersSetsSpec)

/-- 'covenantlaw11.MembersJoins', WHERE WHAT IT READS IS OF BULK AT MOST 1048576: true; the input reads as it did. -/
def membersJoinsUptoRow : OpenClaim := { program := "ytjceoigekifgdaa", sum := "fc13ce1215a1aa498422661aa54599b930b9da9cdbb29aab295b4dd473a2222e", func := "covenant/covenantlaw11.MembersJoins", spec := "membersJoins", recurses := true, apart := false, narrowed := true }
def MembersJoinsUptoSaid : Prop := membersJoinsUptoRow.holds Try.pinned (OpenSpec.upto membersJoinsSpec)

/-- 'covenantlaw11.MembersOwn', WHERE WHAT IT READS IS OF BULK AT MOST 1048576: true; the input reads as it did. -/
def membersOwnUptoRow : OpenClaim := { program := "ytjceoigekifgdaa", sum := "fc13ce1215a1aa498422661aa54599b930b9da9cdbb29aab295b4dd473a2222e", func := "covenant/covenantlaw11.MembersOwn", spec := "membersOwn", recurses := true, apart := false, narrowed := true }
def MembersOwnUptoSaid : Prop := membersOwnUptoRow.holds Try.pinned (OpenSpec.upto membersOwnSpec)

/-- 'covenantlaw11.MembersRules', WHERE WHAT IT READS IS OF BULK AT MOST 1048576: true; the input reads as it did. -/
def membersRulesUptoRow : OpenClaim := { program := "ytjceoigekifgdaa", sum := "fc13ce1215a1aa498422661aa54599b930b9da9cdbb29aab295b4dd473a2222e", func := "covenant/covenantlaw11.MembersRules", spec := "membersRules", recurses := true, apart := false, narrowed := true }
def MembersRulesUptoSaid : Prop := membersRulesUptoRow.holds Try.pinned (OpenSpec.upto membersRulesSpec)

end Rows
end Go.Proofs.Ytjceoigekifgdaa
