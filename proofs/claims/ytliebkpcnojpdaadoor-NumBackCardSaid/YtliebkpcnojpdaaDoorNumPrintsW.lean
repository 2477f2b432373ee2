/- The walk of NumPrints. -/
import Derived.Test.YtliebkpcnojpdaaDoorDoor
import Derived.Test.YtliebkpcnojpdaaDoorPrint
namespace Go.Proofs.YtliebkpcnojpdaaDoor
open Go.ChangeShapes Go.WideShapes Go.ChangeAt Go.RowKit
set_option linter.unusedVariables false

theorem print_any (n : Int) (h1 : -9223372036854775808 ≤ n) (h2 : n ≤ 9223372036854775807) (w : World) (h : Pows w) :
    Calls Tryd.prog 6 #[.int .i64 n] w fun e w' => e = .returned (.string (str (Lib.itoa n))) ∧ Below w.heap.size w w' := by
  have H := Lib.hid h
  clear h
  go_enter Tryd.func6, Tryd.ntmps6
  go_wp2_with fail
  ((with_reducible refine (itoa_any n h1 h2 _ H.out).mono ?_); rintro e w1 ⟨rfl, b1⟩)
  go_wp2
  go_ret
  exact ⟨rfl, b1⟩
theorem numPrints_walk (n : Int) (wf : (Lit.int .i64 n).wf = true) (w : World) (h : Pows w) :
    Calls Tryd.prog 3 #[.int .i64 n] w fun e w' => e = .returned (.bool true) ∧ Below w.heap.size w w' := by
  obtain ⟨h1, h2⟩ := bounds_i64 wf
  have H := Lib.hid h
  clear h
  go_enter Tryd.func3, Tryd.ntmps3
  go_wp2_with fail
  ((with_reducible refine (print_any n h1 h2 _ H.out).mono ?_); rintro e w1 ⟨rfl, b1⟩)
  go_wp2_with fail
  ((with_reducible refine (refPrint_any n h1 h2 _).mono ?_); rintro e w2 ⟨rfl, b2⟩)
  generalize str (Lib.itoa n) = s
  go_wp2
  go_ret
  exact ⟨by simp, b1.trans (b2.mono b1.size)⟩
end Go.Proofs.YtliebkpcnojpdaaDoor
