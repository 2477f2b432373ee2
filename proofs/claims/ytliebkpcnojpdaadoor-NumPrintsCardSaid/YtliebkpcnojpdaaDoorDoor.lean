/- What the listed variables give: the table of powers; the door's own heap meets each list. -/
import Derived.Test.YtliebkpcnojpdaaDoorCards
import Derived.Test.YtliebkpcnojpdaaDoorTie
import Derived.Test.YtliebkpcnojpdaaDoorShelf
import Derived.Test.YtliebkpcnojpdaaDoorBase
import Derived.LaidMore
import Derived.Deep.DeepHandedRow
import Derived.Deep.DeepWitnessRowRef
import Derived.Lib.LaidTab
import Derived.Lib.AppendIntMem
import Derived.Stop.Joined
import Derived.Stop.LaidErr
namespace Go.Proofs.YtliebkpcnojpdaaDoor
open Go.ChangeShapes Go.WideShapes Go.ChangeAt Go.RowKit
set_option linter.unusedVariables false

theorem gPow : Tryd.prog.globalNamed "internal/strconv.uint64pow10" = some 2 := by kernel_rfl
theorem tPow : (Tryd.prog.globals[2]?).map (·.type) = some 62 := by kernel_rfl
theorem cPow : Tryd.prog.cellsOf 62 = 20 := by kernel_rfl
theorem cU64 : Tryd.prog.cellsOf 30 = 1 := by kernel_rfl
abbrev Pows (W : World) : Prop := Lib.TabIs Tryd.prog W "internal/strconv.uint64pow10" .u64 Lib.pow10Tab
theorem pows_of {W : World} {a b : String × DataW Unit} {r : List (String × DataW Unit)} (h : laidMet Tryd.prog (a :: b :: ("internal/strconv.uint64pow10", Rows.laid_internal_strconv_uint64pow10) :: r) W) : Pows W :=
  Lib.tabIs_of_head (rest := r) gPow tPow Tryd.underlying62 Tryd.underlying30 cU64 cPow h.tail.tail
theorem Pows.kept {W W' : World} {B : Nat} (h : Pows W) (hb : Below W.heap.size W W') : Pows W' := Lib.tabBelow_of_tabIs h W' hb

theorem itoa_any (n : Int) (h1 : -9223372036854775808 ≤ n) (h2 : n ≤ 9223372036854775807) (w : World) (h : Pows w) :
    Calls Tryd.prog 12 #[.int .i64 n] w fun e w' => e = .returned (.string (str (Lib.itoa n))) ∧ Below w.heap.size w w' :=
  (Tryd.strconv_Itoa n h1 h2 w h).mono fun e w' ⟨he, k, os, hw⟩ => ⟨he, hw ▸ Lib.below_grow _ _ (Nat.le_refl _) _ _⟩
theorem formatInt_any (n : Int) (h1 : -9223372036854775808 ≤ n) (h2 : n ≤ 9223372036854775807) (w : World) (h : Pows w) :
    Calls Tryd.prog 14 #[.int .i64 n, .int .i64 10] w fun e w' => e = .returned (.string (str (Lib.itoa n))) ∧ Below w.heap.size w w' :=
  (Tryd.strconv_FormatInt_10 n h1 h2 w h).mono fun e w' ⟨he, k, os, hw⟩ => ⟨he, hw ▸ Lib.below_grow _ _ (Nat.le_refl _) _ _⟩
end Go.Proofs.YtliebkpcnojpdaaDoor
