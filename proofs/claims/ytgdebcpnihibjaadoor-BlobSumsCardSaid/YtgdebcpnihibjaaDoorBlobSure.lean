/- What every law asks besides: sure. -/
import Derived.Test.YtgdebcpnihibjaaDoorBlob11
namespace Go.Proofs.YtgdebcpnihibjaaDoor
open Go.ChangeShapes Go.WideShapes Go.ChangeAt Go.RowKit
set_option linter.unusedVariables false

theorem sure_splice (w : World) : Calls Tryd.prog 15 #[.string ⟨#[104, 101, 108, 108, 111]⟩, .int .i64 1, .string ⟨#[69, 89]⟩] w fun e w' => e = .returned (.tuple #[.string ⟨#[104, 69, 89, 108, 111]⟩, .int .i64 0]) ∧ Below w.heap.size w w' :=
  (splice_any ⟨#[104, 101, 108, 108, 111]⟩ ⟨#[69, 89]⟩ 1 (by decide) (by decide) w).1.mono fun e w' ⟨h1, h2⟩ => ⟨h1.trans (by kernel_rfl), h2⟩
theorem sure_set (w : World) : Calls Tryd.prog 19 #[.string ⟨#[]⟩, .int .i64 7, .int .i64 1] w fun e w' => e = .returned (.tuple #[.string ⟨#[1]⟩, .int .i64 0, .int .i64 0]) ∧ Below w.heap.size w w' :=
  (set_any ⟨#[]⟩ (by decide) 7 1 w).1.mono fun e w' ⟨h1, h2⟩ => ⟨h1.trans (by kernel_rfl), h2⟩
theorem sure_op (w : World) : Calls Tryd.prog 25 #[.int .i64 4, .slice (some ⟨w.heap.size, 0, none⟩) 1 1] (w.alloc (.cells #[.string ⟨#[15]⟩] 9)) fun e w' => e = .returned (.tuple #[.string ⟨#[240]⟩, .int .i64 0]) ∧ Below w.heap.size w w' := by
  refine (op_any 4 _ [⟨#[15]⟩] (by decide) (by decide) _ ⟨_, _, rfl, .inr ⟨w.heap.size, 0, rfl, by simp, by decide, by decide, fun j x hx => ?_⟩⟩).mono fun e w' ⟨h1, h2⟩ => ⟨h1.trans (by kernel_rfl), ?_⟩
  · have hj : j = 0 := by have := (List.getElem?_eq_some_iff.1 hx).1; simp at this; omega
    subst hj
    obtain rfl : (⟨#[15]⟩ : ByteArray) = x := by simpa using hx
    exact World.cell?_alloc_mark _ _ _ _ _
  · exact ((Below.refl _ _).alloc (Nat.le_refl _) _).trans (h2.mono (by simp))
theorem itoa_m2 : Lib.itoa (-2) = [45, 50] := by
  unfold Lib.itoa
  rw [if_pos (by omega), show (-2 : Int).natAbs = 2 from rfl, Lib.decDigits_one (by omega)]
  rfl
theorem refP_5 : Pl.refP (⟨#[53]⟩ : ByteArray).data.toList = some 5 := by decide
theorem sure_incr (w : World) (h : Pows w) (hv : Sents w) : Calls Tryd.prog 27 #[.string ⟨#[53]⟩, .int .i64 (-7)] w fun e w' => e = .returned (.tuple #[.string ⟨#[45, 50]⟩, .int .i64 (-2), .int .i64 0]) ∧ Below w.heap.size w w' :=
  (incr_any ⟨#[53]⟩ (by decide) (-7) (by decide) w h hv).mono fun e w' ⟨h1, h2⟩ => ⟨h1.trans (by
    rw [incrV_yes refP_5 (by decide), show (5 : Int) + -7 = -2 from rfl, itoa_m2]; rfl), h2⟩
theorem first_a : Pl.IsFirst [97] 1 0 8 1 := .inr ⟨1, rfl, by decide, by decide, by decide, fun j h1 h2 => by
  obtain rfl : j = 0 := by omega
  decide⟩
theorem sure_first (w : World) : Calls Tryd.prog 21 #[.string ⟨#[97]⟩, .int .i64 1, .int .i64 0, .int .i64 (-1)] w fun e w' => e = .returned (.tuple #[.int .i64 1, .int .i64 0]) ∧ w = w' :=
  (first_1 ⟨#[97]⟩ (by decide) 0 (-1) (by omega) (by omega) (by omega) (by omega) w).mono fun e w' ⟨x, h1, h2, h3⟩ => ⟨by
    have : x = 1 := Pl.IsFirst.eq (l := [97]) (v := 1) (a := 0) (b := 8) h2 first_a
    rw [h1, this], h3⟩
theorem sure_range (w : World) : Calls Tryd.prog 12 #[.string ⟨#[104, 101, 108, 108, 111]⟩, .int .i64 (-3), .int .i64 (-1)] w fun e w' => e = .returned (.string ⟨#[108, 108, 111]⟩) ∧ w = w' :=
  (blobRange_any ⟨#[104, 101, 108, 108, 111]⟩ (by decide) (-3) (-1) (by omega) (by omega) (by omega) (by omega) w).mono fun e w' ⟨h1, h2⟩ => ⟨h1.trans (by kernel_rfl), h2⟩
theorem sure_count (w : World) : Calls Tryd.prog 23 #[.string ⟨#[97, 98]⟩, .int .i64 0, .int .i64 (-1)] w fun e w' => e = .returned (.int .i64 6) ∧ Below w.heap.size w w' :=
  (count_any ⟨#[97, 98]⟩ (by decide) 0 (-1) (by omega) (by omega) (by omega) (by omega) w).mono fun e w' ⟨h1, h2⟩ => ⟨h1.trans (by kernel_rfl), h2⟩
set_option maxRecDepth 100000 in
theorem sure_any (w : World) (h : Pows w) (hv : Sents w) : Calls Tryd.prog 14 #[] w fun e w' => e = .returned (.bool true) ∧ Below w.heap.size w w' := by
  have H := Lib.hid h
  have HV := Lib.hid hv
  clear h hv
  go_enter Tryd.func14, Tryd.ntmps14
  go_wp2_with fail
  ((with_reducible refine (sure_splice _).mono ?_); rintro e w1 ⟨rfl, b1⟩)
  go_wp2_with fail
  ((with_reducible refine (sure_set _).mono ?_); rintro e w2 ⟨rfl, b2⟩)
  have B2 := b1.trans (b2.mono b1.size)
  clear b1 b2
  go_wp2_with fail
  ((with_reducible refine (sure_op _).mono ?_); rintro e w3 ⟨rfl, b3⟩)
  have B3 := B2.trans (b3.mono B2.size)
  clear B2 b3
  go_wp2_with fail
  ((with_reducible refine (sure_incr _ (H.out.kept (B := 0) B3) (HV.out.kept B3)).mono ?_); rintro e w4 ⟨rfl, b4⟩)
  have B4 := B3.trans (b4.mono B3.size)
  clear B3 b4
  go_wp2_with fail
  ((with_reducible refine (sure_first _).mono ?_); rintro e w5 ⟨rfl, rfl⟩)
  go_wp2_with fail
  ((with_reducible refine (sure_range _).mono ?_); rintro e w6 ⟨rfl, rfl⟩)
  go_wp2_with fail
  ((with_reducible refine (sure_count _).mono ?_); rintro e w7 ⟨rfl, b7⟩)
  go_wp2
  go_ret
  exact ⟨rfl, B4.trans (b7.mono B4.size)⟩
end Go.Proofs.YtgdebcpnihibjaaDoor
