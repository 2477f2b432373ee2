/- The walk of NumPrints. -/
import Derived.Test.YtpngmbdchceikaaDoorDoor
import Derived.Test.YtpngmbdchceikaaDoorPrint
namespace Go.Proofs.YtpngmbdchceikaaDoor
open Go.ChangeShapes Go.WideShapes Go.ChangeAt Go.RowKit
set_option linter.unusedVariables false

theorem print_any (n : Int) (h1 : -9223372036854775808 ≤ n) (h2 : n ≤ 9223372036854775807) (w : World) (h : Pows w) :
    Calls Tryd.prog 39 #[.int .i64 n] w fun e w' => e = .returned (.string (str (Lib.itoa n))) ∧ Below w.heap.size w w' := by
  have H := Lib.hid h
  clear h
  go_enter Tryd.func39, Tryd.ntmps39
  go_wp2_with fail
  ((with_reducible refine (itoa_any n h1 h2 _ H.out).mono ?_); rintro e w1 ⟨rfl, b1⟩)
  go_wp2
  go_ret
  exact ⟨rfl, b1⟩
end Go.Proofs.YtpngmbdchceikaaDoor
