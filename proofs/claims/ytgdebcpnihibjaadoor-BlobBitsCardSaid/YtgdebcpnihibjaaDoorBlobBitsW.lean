/- The walk of BlobBits. -/
import Derived.Test.YtgdebcpnihibjaaDoorBlobSure
namespace Go.Proofs.YtgdebcpnihibjaaDoor
open Go.ChangeShapes Go.WideShapes Go.ChangeAt Go.RowKit
set_option linter.unusedVariables false

theorem blobBits_walk (s : ByteArray) (hs : s.size ≤ 140737488351232) (a : Int) (wa : (Lit.int .i64 a).wf = true) (v : Int) (wv : (Lit.int .i64 v).wf = true) (w : World) (h : Pows w) (hv : Sents w) :
    Calls Tryd.prog 5 #[.string s, .int .i64 a, .int .i64 v] w fun e w' => e = .returned (.bool true) ∧ Below w.heap.size w w' := by
  have H := Lib.hid h
  have HV := Lib.hid hv
  clear h hv
  go_enter Tryd.func5, Tryd.ntmps5
  go_wp2_with fail
  ((with_reducible refine (bit_any s hs a _).1.mono ?_); rintro e w1 ⟨rfl, rfl⟩)
  go_wp2_with fail
  ((with_reducible refine (bit_any s hs a _).2.mono ?_); rintro e w1 ⟨rfl, rfl⟩)
  go_wp2_with fail
  ((with_reducible refine (set_any s hs a v _).1.mono ?_); rintro e w1 ⟨rfl, b1⟩)
  go_wp2_with fail
  ((with_reducible refine (set_any s hs a v _).2.mono ?_); rintro e w2 ⟨rfl, b2⟩)
  have B2 := b1.trans (b2.mono b1.size)
  clear b1 b2
  generalize setS s a v = x
  generalize setV s a v = y
  generalize setE a v = z
  generalize bitV s a = x2
  generalize bitE a = y2
  go_wp2_with fail
  ((with_reducible refine (sure_any _ (H.out.kept (B := 0) B2) (HV.out.kept B2)).mono ?_); rintro e w3 ⟨rfl, b3⟩)
  go_wp2
  go_ret
  exact ⟨rfl, B2.trans (b3.mono B2.size)⟩
end Go.Proofs.YtgdebcpnihibjaaDoor
