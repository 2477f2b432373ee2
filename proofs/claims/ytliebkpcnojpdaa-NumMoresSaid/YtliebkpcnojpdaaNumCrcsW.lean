/- The walks of NumCrcs and NumMores. -/
import Derived.Test.YtliebkpcnojpdaaNumCrc
namespace Go.Proofs.Ytliebkpcnojpdaa
open Go.ChangeShapes Go.WideShapes Go.ChangeAt Go.RowKit
set_option linter.unusedVariables false

theorem crc_digits (w : World) :
    Calls Try.prog 14 #[.string ⟨#[49, 50, 51, 52, 53, 54, 55, 56, 57]⟩] w fun e w' => e = .returned (.int .u32 3421780262) ∧ Below w.heap.size w w' := by
  have h := crc_any ⟨#[49, 50, 51, 52, 53, 54, 55, 56, 57]⟩ w (by decide)
  have e : Pl.crc (⟨#[49, 50, 51, 52, 53, 54, 55, 56, 57]⟩ : ByteArray).data.toList = 3421780262 := by decide +kernel
  rw [e] at h
  exact h

theorem numCrcs_walk (a0 : ByteArray) (w0 : a0.size ≤ maxLen) (w : World) :
    Calls Try.prog 5 #[.string a0] w fun e w' => e = .returned (.bool true) ∧ Below w.heap.size w w' := by
  go_enter Try.func5, Try.ntmps5
  go_wp2_with fail
  refine (crc_any a0 _ w0).mono ?_
  rintro e w1 ⟨rfl, b1⟩
  go_wp2_with fail
  refine (refCrc_any a0 _ w0).mono ?_
  rintro e w2 ⟨rfl, rfl⟩
  go_wp2_with fail
  refine (crc_digits _).mono ?_
  rintro e w3 ⟨rfl, b3⟩
  go_wp2
  go_ret
  exact ⟨rfl, b1.trans (b3.mono b1.size)⟩

theorem crc_one (w : World) :
    Calls Try.prog 14 #[.string ⟨#[49]⟩] w fun e w' => e = .returned (.int .u32 2212294583) ∧ Below w.heap.size w w' := by
  have h := crc_any ⟨#[49]⟩ w (by decide)
  have e : Pl.crc (⟨#[49]⟩ : ByteArray).data.toList = 2212294583 := by decide +kernel
  rw [e] at h
  exact h

theorem crc_both (a b : ByteArray) (w : World) (hs : (a ++ b).size ≤ maxLen) :
    Calls Try.prog 14 #[.string (a ++ b)] w fun e w' => e = .returned (.int .u32 (Pl.more (Pl.crc a.data.toList) b.data.toList)) ∧ Below w.heap.size w w' := by
  have h := crc_any (a ++ b) w hs
  rw [show (a ++ b).data.toList = a.data.toList ++ b.data.toList by simp, ← Pl.more_crc] at h
  exact h

theorem numMores_walk (a0 : Int) (w0 : (Lit.int .u32 a0).wf = true) (a1 : ByteArray) (s1 : a1.size ≤ 140737488351232) (a2 : ByteArray) (s2 : a2.size ≤ 140737488351232) (w : World) :
    Calls Try.prog 6 #[.int .u32 a0, .string a1, .string a2] w fun e w' => e = .returned (.bool true) ∧ Below w.heap.size w w' := by
  have hb := bounds_u32 w0
  obtain ⟨n, rfl⟩ := Int.eq_ofNat_of_zero_le hb.1
  have hn : n ≤ 4294967295 := by omega
  clear w0 hb
  have m1 : a1.size ≤ maxLen := by unfold maxLen; omega
  have m2 : a2.size ≤ maxLen := by unfold maxLen; omega
  have m3 : (a1 ++ a2).size ≤ maxLen := by rw [ByteArray.size_append]; unfold maxLen; omega
  have hcl : Pl.crc a1.data.toList ≤ 4294967295 := by have := Pl.more_lt 0 a1.data.toList; unfold Pl.crc; omega
  have hlen : a1.size + a2.size ≤ 9223372036854775807 := by omega
  go_enter Try.func6, Try.ntmps6
  go_wp2_with fail
  refine (more_any n a1 _ hn m1).mono ?_
  rintro e w1 ⟨rfl, b1⟩
  go_wp2_with fail
  refine (refMore_any n a1 _ hn m1).mono ?_
  rintro e w2 ⟨rfl, rfl⟩
  go_wp2_with fail
  refine (crc_any a1 _ m1).mono ?_
  rintro e w3 ⟨rfl, b3⟩
  go_wp2_with fail
  refine (more_any _ a2 _ hcl m2).mono ?_
  rintro e w4 ⟨rfl, b4⟩
  go_wp2_with fail
  refine (crc_both a1 a2 _ m3).mono ?_
  rintro e w5 ⟨rfl, b5⟩
  go_wp2_with fail
  refine (crc_one _).mono ?_
  rintro e w6 ⟨rfl, b6⟩
  go_wp2
  go_ret
  have c3 := b1.trans (b3.mono b1.size)
  have c4 := c3.trans (b4.mono c3.size)
  have c5 := c4.trans (b5.mono c4.size)
  exact ⟨rfl, c5.trans (b6.mono c5.size)⟩

end Go.Proofs.Ytliebkpcnojpdaa
