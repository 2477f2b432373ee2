/- The walk of NumUnfixes. -/
import Derived.Test.YtliebkpcnojpdaaNumUnfix
namespace Go.Proofs.Ytliebkpcnojpdaa
open Go.ChangeShapes Go.WideShapes Go.ChangeAt Go.RowKit
set_option linter.unusedVariables false

theorem numUnfix_two (w : World) :
    Calls Try.prog 12 #[.string ⟨#[2]⟩] w fun e w' => e = .returned (.tuple #[.int .u64 2, .int .i64 0]) ∧ w = w' :=
  numUnfix_any ⟨#[2]⟩ w (by decide)

theorem numUnfixes_walk (a0 : ByteArray) (w0 : a0.size ≤ maxLen) (w : World) :
    Calls Try.prog 4 #[.string a0] w fun e w' => e = .returned (.bool true) ∧ Below w.heap.size w w' := by
  go_enter Try.func4, Try.ntmps4
  go_wp2_with fail
  refine (numUnfix_any a0 _ w0).mono ?_
  rintro e w1 ⟨rfl, rfl⟩
  go_wp2_with fail
  refine (refUnfix_any a0 _ w0).mono ?_
  rintro e w2 ⟨rfl, rfl⟩
  go_wp2_with fail
  refine (numUnfix_two _).mono ?_
  rintro e w3 ⟨rfl, rfl⟩
  go_wp2
  go_ret
  exact ⟨rfl, Below.refl _ _⟩

end Go.Proofs.Ytliebkpcnojpdaa
