/- The walk of BlobRanges. -/
import Derived.Test.YtgdebcpnihibjaaDoorBlobSure
namespace Go.Proofs.YtgdebcpnihibjaaDoor
open Go.ChangeShapes Go.WideShapes Go.ChangeAt Go.RowKit
set_option linter.unusedVariables false

theorem blobRanges_walk (s : ByteArray) (hs : s.size ≤ 140737488351232) (f : Int) (wf : (Lit.int .i64 f).wf = true) (t : Int) (wt : (Lit.int .i64 t).wf = true) (w : World) (h : Pows w) (hv : Sents w) :
    Calls Tryd.prog 3 #[.string s, .int .i64 f, .int .i64 t] w fun e w' => e = .returned (.bool true) ∧ Below w.heap.size w w' := by
  obtain ⟨f1, f2⟩ := bounds_i64 wf
  obtain ⟨t1, t2⟩ := bounds_i64 wt
  have H := Lib.hid h
  have HV := Lib.hid hv
  clear h hv
  go_enter Tryd.func3, Tryd.ntmps3
  go_wp2_with fail
  ((with_reducible refine (blobRange_any s (by omega) f t f1 f2 t1 t2 _).mono ?_); rintro e w1 ⟨rfl, rfl⟩)
  go_wp2_with fail
  ((with_reducible refine (refRange_any s (by omega) f t f1 f2 t1 t2 _).mono ?_); rintro e w1 ⟨rfl, rfl⟩)
  go_wp2_with fail
  ((with_reducible refine (sure_any _ H.out HV.out).mono ?_); rintro e w2 ⟨rfl, b2⟩)
  go_wp2
  go_ret
  exact ⟨rfl, b2⟩
end Go.Proofs.YtgdebcpnihibjaaDoor
