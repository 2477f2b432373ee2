/- The walk of BlobIncrs. -/
import Derived.Test.YtgdebcpnihibjaaDoorBlobSure
namespace Go.Proofs.YtgdebcpnihibjaaDoor
open Go.ChangeShapes Go.WideShapes Go.ChangeAt Go.RowKit
set_option linter.unusedVariables false

theorem incrV_is (s : ByteArray) (y : Int) : ∃ a n e, incrV s y = .tuple #[.string a, .int .i64 n, .int .i64 e] := by
  unfold incrV
  split
  · exact ⟨_, _, _, rfl⟩
  · split
    · exact ⟨_, _, _, rfl⟩
    · exact ⟨_, _, _, rfl⟩
theorem blobIncrs_walk (s : ByteArray) (hs : s.size ≤ 140737488351232) (y : Int) (wy : (Lit.int .i64 y).wf = true) (w : World) (h : Pows w) (hv : Sents w) :
    Calls Tryd.prog 8 #[.string s, .int .i64 y] w fun e w' => e = .returned (.bool true) ∧ Below w.heap.size w w' := by
  have hy : inInt y := bounds_i64 wy
  have h1 := fun W (h : Pows W) (hv : Sents W) => incr_any s hs y hy W h hv
  have h2 := fun W => refIncr_any s hs y hy W
  unfold IncrEnd at h1 h2
  obtain ⟨a, n, e, he⟩ := incrV_is s y
  rw [he] at h1 h2
  have H := Lib.hid h
  have HV := Lib.hid hv
  have H1 := Lib.hid h1
  have H2 := Lib.hid h2
  clear h hv h1 h2 he hy
  go_enter Tryd.func8, Tryd.ntmps8
  go_wp2_with fail
  ((with_reducible refine (H1.out _ H.out HV.out).mono ?_); rintro e w1 ⟨rfl, b1⟩)
  go_wp2_with fail
  ((with_reducible refine (H2.out _).mono ?_); rintro e w2 ⟨rfl, b2⟩)
  have B2 := b1.trans (b2.mono b1.size)
  clear b1 b2
  go_wp2_with fail
  ((with_reducible refine (sure_any _ (H.out.kept (B := 0) B2) (HV.out.kept B2)).mono ?_); rintro e w3 ⟨rfl, b3⟩)
  go_wp2
  go_ret
  exact ⟨rfl, B2.trans (b3.mono B2.size)⟩
end Go.Proofs.YtgdebcpnihibjaaDoor
