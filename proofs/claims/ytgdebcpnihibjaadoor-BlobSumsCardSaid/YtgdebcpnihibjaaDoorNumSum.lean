/- The walks of sums, differences and products. -/
import Derived.Test.YtgdebcpnihibjaaDoorBase
import Derived.Test.YtgdebcpnihibjaaDoorShelf
namespace Go.Proofs.YtgdebcpnihibjaaDoor
open Go.ChangeShapes Go.WideShapes Go.ChangeAt Go.RowKit
set_option linter.unusedVariables false

/-- An int. -/
def inInt (a : Int) : Prop := -9223372036854775808 ≤ a ∧ a ≤ 9223372036854775807
instance (a : Int) : Decidable (inInt a) := by unfold inInt; infer_instance
/-- What the operations tell: the number, and the error. -/
def sumN (x : Int) : Int := if inInt x then x else 0
def sumE (x : Int) : Int := if inInt x then 0 else 11
theorem sum_yes {x : Int} (h : inInt x) : sumN x = x ∧ sumE x = 0 := by simp [sumN, sumE, h]
theorem sum_no {x : Int} (h : ¬ inInt x) : sumN x = 0 ∧ sumE x = 11 := by simp [sumN, sumE, h]
theorem not_int {x : Int} (h : x < -9223372036854775808 ∨ 9223372036854775807 < x) : ¬ inInt x := by unfold inInt; omega

theorem numAdd_hi (a b : Int) (w : World) (ha1 : -9223372036854775808 ≤ a) (ha2 : a ≤ 9223372036854775807) (hb1 : -9223372036854775808 ≤ b) (hb2 : b ≤ 9223372036854775807) (h : 0 < b) (h2 : 9223372036854775807 - b < a) :
    Calls Tryd.prog 38 #[.int .i64 a, .int .i64 b] w fun e w' => e = .returned (.tuple #[.int .i64 0, .int .i64 11]) ∧ w = w' := by
  go_enter Tryd.func38, Tryd.ntmps38
  go_wp2
  go_ret2
  exact ⟨rfl, rfl⟩

theorem numAdd_lo (a b : Int) (w : World) (ha1 : -9223372036854775808 ≤ a) (ha2 : a ≤ 9223372036854775807) (hb1 : -9223372036854775808 ≤ b) (hb2 : b ≤ 9223372036854775807) (h : b < 0) (h2 : a < -9223372036854775808 - b) :
    Calls Tryd.prog 38 #[.int .i64 a, .int .i64 b] w fun e w' => e = .returned (.tuple #[.int .i64 0, .int .i64 11]) ∧ w = w' := by
  go_enter Tryd.func38, Tryd.ntmps38
  go_wp2
  go_ret2
  exact ⟨rfl, rfl⟩

theorem numAdd_p (a b : Int) (w : World) (ha1 : -9223372036854775808 ≤ a) (ha2 : a ≤ 9223372036854775807) (hb1 : -9223372036854775808 ≤ b) (hb2 : b ≤ 9223372036854775807) (h : 0 < b) (h2 : ¬ 9223372036854775807 - b < a) :
    Calls Tryd.prog 38 #[.int .i64 a, .int .i64 b] w fun e w' => e = .returned (.tuple #[.int .i64 (a + b), .int .i64 0]) ∧ w = w' := by
  go_enter Tryd.func38, Tryd.ntmps38
  go_wp2
  go_ret2
  exact ⟨rfl, rfl⟩

theorem numAdd_m (a b : Int) (w : World) (ha1 : -9223372036854775808 ≤ a) (ha2 : a ≤ 9223372036854775807) (hb1 : -9223372036854775808 ≤ b) (hb2 : b ≤ 9223372036854775807) (h : b < 0) (h2 : ¬ a < -9223372036854775808 - b) :
    Calls Tryd.prog 38 #[.int .i64 a, .int .i64 b] w fun e w' => e = .returned (.tuple #[.int .i64 (a + b), .int .i64 0]) ∧ w = w' := by
  go_enter Tryd.func38, Tryd.ntmps38
  go_wp2
  go_ret2
  exact ⟨rfl, rfl⟩

theorem numAdd_z (a b : Int) (w : World) (ha1 : -9223372036854775808 ≤ a) (ha2 : a ≤ 9223372036854775807) (hb1 : -9223372036854775808 ≤ b) (hb2 : b ≤ 9223372036854775807) (h : ¬ 0 < b) (h2 : ¬ b < 0) :
    Calls Tryd.prog 38 #[.int .i64 a, .int .i64 b] w fun e w' => e = .returned (.tuple #[.int .i64 (a + b), .int .i64 0]) ∧ w = w' := by
  go_enter Tryd.func38, Tryd.ntmps38
  go_wp2
  go_ret2
  exact ⟨rfl, rfl⟩

theorem numAdd_any (a b : Int) (w : World) (ha : inInt a) (hb : inInt b) :
    Calls Tryd.prog 38 #[.int .i64 a, .int .i64 b] w fun e w' => e = .returned (.tuple #[.int .i64 (sumN (a + b)), .int .i64 (sumE (a + b))]) ∧ w = w' := by
  obtain ⟨ha1, ha2⟩ := ha
  obtain ⟨hb1, hb2⟩ := hb
  by_cases h1 : a + b < -9223372036854775808
  · obtain ⟨e1, e2⟩ := sum_no (not_int (x := a + b) (.inl h1))
    rw [e1, e2]
    exact numAdd_lo a b w ha1 ha2 hb1 hb2 (by omega) (by omega)
  · by_cases h2 : 9223372036854775807 < a + b
    · obtain ⟨e1, e2⟩ := sum_no (not_int (x := a + b) (.inr h2))
      rw [e1, e2]
      exact numAdd_hi a b w ha1 ha2 hb1 hb2 (by omega) (by omega)
    · obtain ⟨e1, e2⟩ := sum_yes (x := a + b) (by unfold inInt; omega)
      rw [e1, e2]
      by_cases h3 : 0 < b
      · exact numAdd_p a b w ha1 ha2 hb1 hb2 h3 (by omega)
      · by_cases h4 : b < 0
        · exact numAdd_m a b w ha1 ha2 hb1 hb2 h4 (by omega)
        · exact numAdd_z a b w ha1 ha2 hb1 hb2 h3 h4

theorem refAdd_hi (a b : Int) (w : World) (ha1 : -9223372036854775808 ≤ a) (ha2 : a ≤ 9223372036854775807) (hb1 : -9223372036854775808 ≤ b) (hb2 : b ≤ 9223372036854775807) (h : 0 < b) (h2 : 9223372036854775807 - b < a) :
    Calls Tryd.prog 41 #[.int .i64 a, .int .i64 b] w fun e w' => e = .returned (.tuple #[.int .i64 0, .int .i64 11]) ∧ w = w' := by
  go_enter Tryd.func41, Tryd.ntmps41
  go_wp2
  go_ret2
  exact ⟨rfl, rfl⟩

theorem refAdd_lo (a b : Int) (w : World) (ha1 : -9223372036854775808 ≤ a) (ha2 : a ≤ 9223372036854775807) (hb1 : -9223372036854775808 ≤ b) (hb2 : b ≤ 9223372036854775807) (h : b < 0) (h2 : a < -9223372036854775808 - b) :
    Calls Tryd.prog 41 #[.int .i64 a, .int .i64 b] w fun e w' => e = .returned (.tuple #[.int .i64 0, .int .i64 11]) ∧ w = w' := by
  go_enter Tryd.func41, Tryd.ntmps41
  go_wp2
  go_ret2
  exact ⟨rfl, rfl⟩

theorem refAdd_p (a b : Int) (w : World) (ha1 : -9223372036854775808 ≤ a) (ha2 : a ≤ 9223372036854775807) (hb1 : -9223372036854775808 ≤ b) (hb2 : b ≤ 9223372036854775807) (h : 0 < b) (h2 : ¬ 9223372036854775807 - b < a) :
    Calls Tryd.prog 41 #[.int .i64 a, .int .i64 b] w fun e w' => e = .returned (.tuple #[.int .i64 (a + b), .int .i64 0]) ∧ w = w' := by
  go_enter Tryd.func41, Tryd.ntmps41
  go_wp2
  go_ret2
  exact ⟨rfl, rfl⟩

theorem refAdd_m (a b : Int) (w : World) (ha1 : -9223372036854775808 ≤ a) (ha2 : a ≤ 9223372036854775807) (hb1 : -9223372036854775808 ≤ b) (hb2 : b ≤ 9223372036854775807) (h : b < 0) (h2 : ¬ a < -9223372036854775808 - b) :
    Calls Tryd.prog 41 #[.int .i64 a, .int .i64 b] w fun e w' => e = .returned (.tuple #[.int .i64 (a + b), .int .i64 0]) ∧ w = w' := by
  go_enter Tryd.func41, Tryd.ntmps41
  go_wp2
  go_ret2
  exact ⟨rfl, rfl⟩

theorem refAdd_z (a b : Int) (w : World) (ha1 : -9223372036854775808 ≤ a) (ha2 : a ≤ 9223372036854775807) (hb1 : -9223372036854775808 ≤ b) (hb2 : b ≤ 9223372036854775807) (h : ¬ 0 < b) (h2 : ¬ b < 0) :
    Calls Tryd.prog 41 #[.int .i64 a, .int .i64 b] w fun e w' => e = .returned (.tuple #[.int .i64 (a + b), .int .i64 0]) ∧ w = w' := by
  go_enter Tryd.func41, Tryd.ntmps41
  go_wp2
  go_ret2
  exact ⟨rfl, rfl⟩

theorem refAdd_any (a b : Int) (w : World) (ha : inInt a) (hb : inInt b) :
    Calls Tryd.prog 41 #[.int .i64 a, .int .i64 b] w fun e w' => e = .returned (.tuple #[.int .i64 (sumN (a + b)), .int .i64 (sumE (a + b))]) ∧ w = w' := by
  obtain ⟨ha1, ha2⟩ := ha
  obtain ⟨hb1, hb2⟩ := hb
  by_cases h1 : a + b < -9223372036854775808
  · obtain ⟨e1, e2⟩ := sum_no (not_int (x := a + b) (.inl h1))
    rw [e1, e2]
    exact refAdd_lo a b w ha1 ha2 hb1 hb2 (by omega) (by omega)
  · by_cases h2 : 9223372036854775807 < a + b
    · obtain ⟨e1, e2⟩ := sum_no (not_int (x := a + b) (.inr h2))
      rw [e1, e2]
      exact refAdd_hi a b w ha1 ha2 hb1 hb2 (by omega) (by omega)
    · obtain ⟨e1, e2⟩ := sum_yes (x := a + b) (by unfold inInt; omega)
      rw [e1, e2]
      by_cases h3 : 0 < b
      · exact refAdd_p a b w ha1 ha2 hb1 hb2 h3 (by omega)
      · by_cases h4 : b < 0
        · exact refAdd_m a b w ha1 ha2 hb1 hb2 h4 (by omega)
        · exact refAdd_z a b w ha1 ha2 hb1 hb2 h3 h4

theorem wrap_u64_neg {a : Int} (h1 : -9223372036854775808 ≤ a) (h : a < 0) : IntKind.u64.wrap (-IntKind.u64.wrap a) = a.natAbs := by
  rw [IntKind.wrap_u64, IntKind.wrap_u64]; omega

theorem mul_sign_d {a b : Int} (h : (!decide (a < 0) == decide (b < 0)) = true) : a * b = -((a.natAbs : Int) * (b.natAbs : Int)) := by
  by_cases ha : a < 0 <;> by_cases hb : b < 0 <;> simp [ha, hb] at h
  · rw [show (a.natAbs : Int) = -a by omega, show (b.natAbs : Int) = b by omega, Int.neg_mul, Int.neg_neg]
  · rw [show (a.natAbs : Int) = a by omega, show (b.natAbs : Int) = -b by omega, Int.mul_neg, Int.neg_neg]
theorem mul_sign_s {a b : Int} (h : (!decide (a < 0) == decide (b < 0)) = false) : a * b = (a.natAbs : Int) * (b.natAbs : Int) := by
  by_cases ha : a < 0 <;> by_cases hb : b < 0 <;> simp [ha, hb] at h
  · rw [show (a.natAbs : Int) = -a by omega, show (b.natAbs : Int) = -b by omega, Int.neg_mul_neg]
  · rw [show (a.natAbs : Int) = a by omega, show (b.natAbs : Int) = b by omega]
theorem mul_pos' (a b : Int) : 0 ≤ (a.natAbs : Int) * (b.natAbs : Int) := Int.mul_nonneg (by omega) (by omega)
theorem wrap64_in {x : Int} (h : inInt x) : wrap64 x = x := by unfold inInt at h; unfold wrap64; omega

/-- The two ends of a product. -/
theorem mulEnd_yes {a b : Int} (h : inInt (a * b)) : Ending.returned (.tuple #[.int .i64 (wrap64 (a * b)), .int .i64 0]) = .returned (.tuple #[.int .i64 (sumN (a * b)), .int .i64 (sumE (a * b))]) := by
  rw [(sum_yes h).1, (sum_yes h).2, wrap64_in h]
theorem mulEnd_no {a b : Int} (h : ¬ inInt (a * b)) : Ending.returned (.tuple #[.int .i64 0, .int .i64 11]) = .returned (.tuple #[.int .i64 (sumN (a * b)), .int .i64 (sumE (a * b))]) := by
  rw [(sum_no h).1, (sum_no h).2]
theorem mul_yes_d {a b : Int} (h : (!decide (a < 0) == decide (b < 0)) = true) (h1 : (a.natAbs : Int) * (b.natAbs : Int) / 18446744073709551616 = 0) (h2 : (a.natAbs : Int) * (b.natAbs : Int) % 18446744073709551616 ≤ 9223372036854775808) : inInt (a * b) := by
  have hp := mul_pos' a b
  rw [mul_sign_d h]; unfold inInt; omega
theorem mul_yes_s {a b : Int} (h : (!decide (a < 0) == decide (b < 0)) = false) (h1 : (a.natAbs : Int) * (b.natAbs : Int) / 18446744073709551616 = 0) (h2 : (a.natAbs : Int) * (b.natAbs : Int) % 18446744073709551616 ≤ 9223372036854775807) : inInt (a * b) := by
  have hp := mul_pos' a b
  rw [mul_sign_s h]; unfold inInt; omega
theorem mul_no_d {a b : Int} (h : (!decide (a < 0) == decide (b < 0)) = true) (h1 : (a.natAbs : Int) * (b.natAbs : Int) / 18446744073709551616 = 0) (h2 : 9223372036854775808 < (a.natAbs : Int) * (b.natAbs : Int) % 18446744073709551616) : ¬ inInt (a * b) := by
  have hp := mul_pos' a b
  rw [mul_sign_d h]; unfold inInt; omega
theorem mul_no_s {a b : Int} (h : (!decide (a < 0) == decide (b < 0)) = false) (h1 : (a.natAbs : Int) * (b.natAbs : Int) / 18446744073709551616 = 0) (h2 : 9223372036854775807 < (a.natAbs : Int) * (b.natAbs : Int) % 18446744073709551616) : ¬ inInt (a * b) := by
  have hp := mul_pos' a b
  rw [mul_sign_s h]; unfold inInt; omega
theorem mul_no_h {a b : Int} (h1 : ¬ (a.natAbs : Int) * (b.natAbs : Int) / 18446744073709551616 = 0) : ¬ inInt (a * b) := by
  have hp := mul_pos' a b
  rcases hb : (!decide (a < 0) == decide (b < 0)) with _ | _
  · rw [mul_sign_s hb]; unfold inInt; omega
  · rw [mul_sign_d hb]; unfold inInt; omega

theorem mulEnd_zero {a b : Int} (h : a = 0) : Ending.returned (.tuple #[.int .i64 0, .int .i64 0]) = .returned (.tuple #[.int .i64 (sumN (a * b)), .int .i64 (sumE (a * b))]) := by
  subst h; rw [Int.zero_mul]; rfl
theorem ref_no_d {a b : Int} (h : (!decide (a < 0) == decide (b < 0)) = true) (h0 : ¬ a = 0) (h1 : ((a.natAbs : Int) != 0) = true ∧ 9223372036854775808 / (a.natAbs : Int) < b.natAbs) : ¬ inInt (a * b) := by
  have h2 := (Int.ediv_lt_iff_lt_mul (show (0 : Int) < a.natAbs by omega)).1 h1.2
  rw [Int.mul_comm] at h2
  rw [mul_sign_d h]; unfold inInt; omega
theorem ref_no_s {a b : Int} (h : (!decide (a < 0) == decide (b < 0)) = false) (h0 : ¬ a = 0) (h1 : ((a.natAbs : Int) != 0) = true ∧ 9223372036854775807 / (a.natAbs : Int) < b.natAbs) : ¬ inInt (a * b) := by
  have h2 := (Int.ediv_lt_iff_lt_mul (show (0 : Int) < a.natAbs by omega)).1 h1.2
  rw [Int.mul_comm] at h2
  rw [mul_sign_s h]; unfold inInt; omega
theorem nonzero {a : Int} (h0 : ¬ a = 0) (h : ((a.natAbs : Int) != 0) = false) : False := by
  have := bne_eq_false_iff_eq.1 h
  omega
theorem ref_yes_d {a b : Int} (h : (!decide (a < 0) == decide (b < 0)) = true) (h0 : ¬ a = 0) (h1 : ((a.natAbs : Int) != 0) = false ∨ (b.natAbs : Int) ≤ 9223372036854775808 / (a.natAbs : Int)) : inInt (a * b) := by
  rcases h1 with h1 | h1
  · exact (nonzero h0 h1).elim
  have h2 := (Int.le_ediv_iff_mul_le (show (0 : Int) < a.natAbs by omega)).1 h1
  have hp := mul_pos' a b
  rw [Int.mul_comm] at h2
  rw [mul_sign_d h]; unfold inInt; omega
theorem ref_yes_s {a b : Int} (h : (!decide (a < 0) == decide (b < 0)) = false) (h0 : ¬ a = 0) (h1 : ((a.natAbs : Int) != 0) = false ∨ (b.natAbs : Int) ≤ 9223372036854775807 / (a.natAbs : Int)) : inInt (a * b) := by
  rcases h1 with h1 | h1
  · exact (nonzero h0 h1).elim
  have h2 := (Int.le_ediv_iff_mul_le (show (0 : Int) < a.natAbs by omega)).1 h1
  have hp := mul_pos' a b
  rw [Int.mul_comm] at h2
  rw [mul_sign_s h]; unfold inInt; omega

end Go.Proofs.YtgdebcpnihibjaaDoor
