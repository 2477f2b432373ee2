/- The walk of FrameEncodes. -/
import Derived.Test.YtehggdflhjgkeaaFrame9
namespace Go.Proofs.Ytehggdflhjgkeaa
open Go.ChangeShapes Go.WideShapes Go.ChangeAt Go.RowKit
set_option linter.unusedVariables false

/-- What both writers tell. -/
def encS (n : Nat) (b : ByteArray) : ByteArray := if n = 0 ∨ 1073741824 < b.size then str [] else str (Pl.encL n b.data.toList)
def encE (n : Nat) (b : ByteArray) : Int := if n = 0 ∨ 1073741824 < b.size then 250 else 0
theorem enc_any (n : Nat) (b : ByteArray) (w : World) (hn : n ≤ 18446744073709551615) (hb : b.size ≤ maxLen) :
    Calls Try.prog 10 #[.agg #[.int .u64 n, .string b]] w fun e w' => e = .returned (.tuple #[.string (encS n b), .int .i64 (encE n b)]) ∧ Below w.heap.size w w' := by
  unfold encS encE
  by_cases h : n = 0 ∨ 1073741824 < b.size
  · rw [if_pos h, if_pos h]
    refine enc_bad n b hb w ?_
    by_cases h0 : n = 0
    · exact .inl (by rw [h0]; rfl)
    · exact .inr ⟨by rw [beq_eq_false_iff_ne]; omega, by rcases h with h | h; exact absurd h h0; exact h⟩
  · rw [if_neg h, if_neg h]
    exact enc_ok n b hn (by rw [beq_eq_false_iff_ne]; omega) (by omega) w
theorem refEnc_any (n : Nat) (b : ByteArray) (w : World) (hn : n ≤ 18446744073709551615) (hb : b.size ≤ maxLen) :
    Calls Try.prog 11 #[.agg #[.int .u64 n, .string b]] w fun e w' => e = .returned (.tuple #[.string (encS n b), .int .i64 (encE n b)]) ∧ Below w.heap.size w w' := by
  unfold encS encE
  by_cases h : n = 0 ∨ 1073741824 < b.size
  · rw [if_pos h, if_pos h]
    refine refEnc_bad n b hb w ?_
    by_cases h0 : n = 0
    · exact .inl (by rw [h0]; rfl)
    · exact .inr ⟨by rw [beq_eq_false_iff_ne]; omega, by rcases h with h | h; exact absurd h h0; exact h⟩
  · rw [if_neg h, if_neg h]
    exact refEnc_ok n b hn (by rw [beq_eq_false_iff_ne]; omega) (by omega) w

theorem frameEncodes_walk (n0 : Int) (w0 : (Lit.int .u64 n0).wf = true) (s0 : ByteArray) (u0 : s0.size ≤ maxLen) (a1 : Int) (w1 : (Lit.int .u64 a1).wf = true) (w : World) :
    Calls Try.prog 3 #[.agg #[.int .u64 n0, .string s0], .int .u64 a1] w fun e w' => e = .returned (.bool true) ∧ Below w.heap.size w w' := by
  have hb := bounds_u64 w0
  obtain ⟨n, rfl⟩ := Int.eq_ofNat_of_zero_le hb.1
  have hn : n ≤ 18446744073709551615 := by omega
  have hb1 := bounds_u64 w1
  obtain ⟨m, rfl⟩ := Int.eq_ofNat_of_zero_le hb1.1
  have hm : m ≤ 18446744073709551615 := by omega
  clear w0 w1 hb hb1
  go_enter Try.func3, Try.ntmps3
  go_wp2_with fail
  obtain ⟨wb, hwb, hw, hlt, k0, k1, f0, f1⟩ := box2 w (.int .u64 n) (.string s0) 24
  rw [hwb]
  have Hwb := Lib.hid hwb
  clear hwb f0 f1
  refine (enc_any n s0 _ hn u0).mono ?_
  rintro e w1 ⟨rfl, b1⟩
  go_wp2_with fail
  refine (refEnc_any n s0 _ hn u0).mono ?_
  rintro e w2 ⟨rfl, b2⟩
  have b2 := b1.trans (b2.mono b1.size)
  go_wp2_with fail
  refine (head_any m _ hm).mono ?_
  rintro e w3 ⟨rfl, b3⟩
  go_wp2_with fail
  refine (refHead_any m _ hm).mono ?_
  rintro e w4 ⟨rfl, b4⟩
  go_wp2_with fail
  refine (awake_any _).mono ?_
  rintro e w5 ⟨rfl, b5⟩
  go_wp2
  go_ret
  have c2 := hw.trans (b2.mono hw.size)
  have c3 := c2.trans (b3.mono c2.size)
  have c4 := c3.trans (b4.mono c3.size)
  exact ⟨rfl, c4.trans (b5.mono c4.size)⟩

end Go.Proofs.Ytehggdflhjgkeaa
