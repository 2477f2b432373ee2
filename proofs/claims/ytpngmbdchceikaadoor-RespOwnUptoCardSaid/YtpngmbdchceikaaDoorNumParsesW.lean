/- The walk of NumParses. -/
import Derived.Test.YtpngmbdchceikaaDoorParse
namespace Go.Proofs.YtpngmbdchceikaaDoor
open Go.ChangeShapes Go.WideShapes Go.ChangeAt Go.RowKit
set_option linter.unusedVariables false

theorem refP_five : Lib.parseIntB 64 (⟨#[45, 53]⟩ : ByteArray).data.toList = .ok (-5) := by decide
theorem itoa_five : Lib.itoa (-5) = [45, 53] := by
  unfold Lib.itoa
  rw [if_pos (by omega), show (-5 : Int).natAbs = 5 from rfl, Lib.decDigits_one (by omega)]
  rfl
theorem five_any (w : World) (h : Pows w) : Calls Tryd.prog 57 #[.string ⟨#[45, 53]⟩] w fun e w' => e = .returned (.tuple #[.int .i64 (-5), .int .i64 0]) ∧ Below w.heap.size w w' := by
  refine (numParse_ok ⟨#[45, 53]⟩ (by decide) (-5) refP_five w h).mono fun e w' ⟨h1, h2⟩ => ⟨?_, h2⟩
  rw [h1, if_pos (by rw [itoa_five])]
  rfl
end Go.Proofs.YtpngmbdchceikaaDoor
