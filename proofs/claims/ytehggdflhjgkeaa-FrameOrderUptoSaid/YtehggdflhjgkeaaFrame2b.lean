/- The walks of Decode: what is handed back. -/
import Derived.Test.YtehggdflhjgkeaaFrame1
import Derived.Test.YtehggdflhjgkeaaBox
import Derived.Lib.Strings
import Derived.IntWalk
namespace Go.Proofs.Ytehggdflhjgkeaa
open Go.ChangeShapes Go.WideShapes Go.ChangeAt Go.RowKit
set_option linter.unusedVariables false

/-- What a reader hands back, as a value. -/
def gotV (g : Pl.Got) : Value := .tuple #[.agg #[.int .u64 g.num, .string (str g.body)], .int .i64 g.used, .int .i64 g.err]
theorem gotV_good (s : ByteArray) (n m : Nat) : Value.tuple #[.agg #[.int .u64 m, .string (s.extract 20 (20 + n))], .int .i64 (20 + (n : Int) + 5), .int .i64 0] = gotV ⟨m, (s.extract 20 (20 + n)).data.toList, 25 + n, 0⟩ := by
  unfold gotV
  rw [str_of, show ((25 + n : Nat) : Int) = 20 + (n : Int) + 5 from by omega]
  rfl
theorem groupInfo : (Try.prog.info? 24).map (·.size) = some 2 := by kernel_rfl
/-- The end of a reader: the box read whole. -/
theorem dec_end {W : World} {x y : Value} {tmps : Array Value} {n : Nat} {fn : Func} (hr : fn.results = #[.cell 2 24, .tmp 3, .tmp 4]) (hp : tmps.getD 2 undef = .pointer (some ⟨n, 0, none⟩))
    (h0 : W.cell? ⟨n, 0, none⟩ = some x) (h1 : W.cell? ⟨n, 1, none⟩ = some y) :
    (results fn tmps).run Try.prog W = .ok (.tuple #[.agg #[x, y], tmps.getD 3 undef, tmps.getD 4 undef]) W :=
  results_cell_tmp_tmp hr tmps W n _ hp (run_loadVar_two W n 24 x y _ Try.underlying24 groupInfo h0 h1)

end Go.Proofs.Ytehggdflhjgkeaa
