/- The walk of NumFixes. -/
import Derived.Test.YtliebkpcnojpdaaNumFix
namespace Go.Proofs.Ytliebkpcnojpdaa
open Go.ChangeShapes Go.WideShapes Go.ChangeAt Go.RowKit
set_option linter.unusedVariables false

theorem numFixes_walk (a0 : Int) (w0 : (Lit.int .u64 a0).wf = true) (a1 : Int) (w1 : (Lit.int .i64 a1).wf = true) (w : World) :
    Calls Try.prog 3 #[.int .u64 a0, .int .i64 a1] w fun e w' => e = .returned (.bool true) ∧ Below w.heap.size w w' := by
  have hb := bounds_u64 w0
  obtain ⟨n, rfl⟩ := Int.eq_ofNat_of_zero_le hb.1
  have hn : n ≤ 18446744073709551615 := by omega
  clear w0 w1 hb
  go_enter Try.func3, Try.ntmps3
  go_wp2_with fail
  refine (numFix_any n a1 _ hn).mono ?_
  rintro e w1 ⟨rfl, b1⟩
  go_wp2_with fail
  refine (refFix_any n a1 _ hn).mono ?_
  rintro e w2 ⟨rfl, b2⟩
  go_wp2_with fail
  refine (numFix_258 _).mono ?_
  rintro e w3 ⟨rfl, b3⟩
  go_wp2
  go_ret
  exact ⟨rfl, (b1.trans (b2.mono b1.size)).trans (b3.mono (Nat.le_trans b1.size b2.size))⟩

end Go.Proofs.Ytliebkpcnojpdaa
