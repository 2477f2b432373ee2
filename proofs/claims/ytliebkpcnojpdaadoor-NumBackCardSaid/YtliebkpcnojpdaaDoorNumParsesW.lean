/- The walk of NumParses. -/
import Derived.Test.YtliebkpcnojpdaaDoorParse
namespace Go.Proofs.YtliebkpcnojpdaaDoor
open Go.ChangeShapes Go.WideShapes Go.ChangeAt Go.RowKit
set_option linter.unusedVariables false

theorem refP_five : Lib.parseIntB 64 (⟨#[45, 53]⟩ : ByteArray).data.toList = .ok (-5) := by decide
theorem itoa_five : Lib.itoa (-5) = [45, 53] := by
  unfold Lib.itoa
  rw [if_pos (by omega), show (-5 : Int).natAbs = 5 from rfl, Lib.decDigits_one (by omega)]
  rfl
theorem five_any (w : World) (h : Pows w) : Calls Tryd.prog 8 #[.string ⟨#[45, 53]⟩] w fun e w' => e = .returned (.tuple #[.int .i64 (-5), .int .i64 0]) ∧ Below w.heap.size w w' := by
  refine (numParse_ok ⟨#[45, 53]⟩ (by decide) (-5) refP_five w h).mono fun e w' ⟨h1, h2⟩ => ⟨?_, h2⟩
  rw [h1, if_pos (by rw [itoa_five])]
  rfl
theorem numParses_walk (s : ByteArray) (hs : s.size ≤ 140737488351232) (w : World) (h : Pows w) (hv : Sents w) :
    Calls Tryd.prog 4 #[.string s] w fun e w' => e = .returned (.bool true) ∧ Below w.heap.size w w' := by
  have H := Lib.hid h
  have HV := Lib.hid hv
  clear h hv
  rcases ho : Pl.refP s.data.toList with _ | n
  all_goals
    have HO := Lib.hid ho
    clear ho
    go_enter Tryd.func4, Tryd.ntmps4
    go_wp2_with fail
    ((with_reducible refine (numParse_any s hs _ H.out HV.out).mono ?_); rintro e w1 ⟨rfl, b1⟩)
    rw [HO.out]
    simp only [optV]
    go_wp2_with fail
    ((with_reducible refine (refParse_any s hs _).mono ?_); rintro e w2 ⟨rfl, b2⟩)
    rw [HO.out]
    simp only [optV]
    have B2 := Lib.hid (b1.trans (b2.mono b1.size))
    clear b1 b2
    go_wp2_with fail
    ((with_reducible refine (five_any _ (H.out.kept (B := 0) B2.out)).mono ?_); rintro e w3 ⟨rfl, b3⟩)
    go_wp2
    go_ret
    exact ⟨rfl, B2.out.trans (b3.mono B2.out.size)⟩
end Go.Proofs.YtliebkpcnojpdaaDoor
