/- The walk of NumSums. -/
import Derived.Test.YtliebkpcnojpdaaNumSum
namespace Go.Proofs.Ytliebkpcnojpdaa
open Go.ChangeShapes Go.WideShapes Go.ChangeAt Go.RowKit
set_option linter.unusedVariables false

theorem inInt_of {a : Int} (h : (Lit.int .i64 a).wf = true) : inInt a := by
  have := bounds_i64 h
  unfold inInt; omega
theorem numMul_six (w : World) :
    Calls Try.prog 20 #[.int .i64 (-2), .int .i64 (-3)] w fun e w' => e = .returned (.tuple #[.int .i64 6, .int .i64 0]) ∧ w = w' :=
  numMul_any (-2) (-3) w (by unfold inInt; omega) (by unfold inInt; omega)

theorem numSums_walk (a0 : Int) (w0 : (Lit.int .i64 a0).wf = true) (a1 : Int) (w1 : (Lit.int .i64 a1).wf = true) (w : World) :
    Calls Try.prog 8 #[.int .i64 a0, .int .i64 a1] w fun e w' => e = .returned (.bool true) ∧ Below w.heap.size w w' := by
  have h0 := inInt_of w0
  have h1 := inInt_of w1
  clear w0 w1
  go_enter Try.func8, Try.ntmps8
  go_wp2_with fail
  refine (numAdd_any a0 a1 _ h0 h1).mono ?_
  rintro e w1 ⟨rfl, rfl⟩
  go_wp2_with fail
  refine (numSub_any a0 a1 _ h0 h1).mono ?_
  rintro e w1 ⟨rfl, rfl⟩
  go_wp2_with fail
  refine (numMul_any a0 a1 _ h0 h1).mono ?_
  rintro e w1 ⟨rfl, rfl⟩
  go_wp2_with fail
  refine (refAdd_any a0 a1 _ h0 h1).mono ?_
  rintro e w1 ⟨rfl, rfl⟩
  go_wp2_with fail
  refine (refSub_any a0 a1 _ h0 h1).mono ?_
  rintro e w1 ⟨rfl, rfl⟩
  go_wp2_with fail
  refine (refMul_any a0 a1 _ h0 h1).mono ?_
  rintro e w1 ⟨rfl, rfl⟩
  go_wp2_with fail
  refine (numMul_six _).mono ?_
  rintro e w1 ⟨rfl, rfl⟩
  go_wp2
  go_ret
  exact ⟨rfl, Below.refl _ _⟩

end Go.Proofs.Ytliebkpcnojpdaa
