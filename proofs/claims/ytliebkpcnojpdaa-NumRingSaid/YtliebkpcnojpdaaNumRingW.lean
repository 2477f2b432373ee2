/- The walk of NumRing. -/
import Derived.Test.YtliebkpcnojpdaaNumSumsW
namespace Go.Proofs.Ytliebkpcnojpdaa
open Go.ChangeShapes Go.WideShapes Go.ChangeAt Go.RowKit
set_option linter.unusedVariables false

theorem add_yes (a b r : Int) (w : World) (ha : inInt a) (hb : inInt b) (hr : a + b = r) (h : inInt r) :
    Calls Try.prog 18 #[.int .i64 a, .int .i64 b] w fun e w' => e = .returned (.tuple #[.int .i64 r, .int .i64 0]) ∧ w = w' := by
  have := numAdd_any a b w ha hb
  rw [hr, (sum_yes h).1, (sum_yes h).2] at this
  exact this
theorem add_no (a b r : Int) (w : World) (ha : inInt a) (hb : inInt b) (hr : a + b = r) (h : ¬ inInt r) :
    Calls Try.prog 18 #[.int .i64 a, .int .i64 b] w fun e w' => e = .returned (.tuple #[.int .i64 0, .int .i64 11]) ∧ w = w' := by
  have := numAdd_any a b w ha hb
  rw [hr, (sum_no h).1, (sum_no h).2] at this
  exact this
theorem sub_yes (a b r : Int) (w : World) (ha : inInt a) (hb : inInt b) (hr : a - b = r) (h : inInt r) :
    Calls Try.prog 19 #[.int .i64 a, .int .i64 b] w fun e w' => e = .returned (.tuple #[.int .i64 r, .int .i64 0]) ∧ w = w' := by
  have := numSub_any a b w ha hb
  rw [hr, (sum_yes h).1, (sum_yes h).2] at this
  exact this
theorem mul_swap (a b : Int) (w : World) (ha : inInt a) (hb : inInt b) :
    Calls Try.prog 20 #[.int .i64 b, .int .i64 a] w fun e w' => e = .returned (.tuple #[.int .i64 (sumN (a * b)), .int .i64 (sumE (a * b))]) ∧ w = w' := by
  rw [Int.mul_comm a b]; exact numMul_any b a w hb ha
theorem mul_one' (a : Int) (w : World) (ha : inInt a) :
    Calls Try.prog 20 #[.int .i64 a, .int .i64 1] w fun e w' => e = .returned (.tuple #[.int .i64 a, .int .i64 0]) ∧ w = w' := by
  have := numMul_any a 1 w ha (by unfold inInt; omega)
  rw [Int.mul_one, (sum_yes ha).1, (sum_yes ha).2] at this
  exact this

theorem numRing_walk (a0 : Int) (w0 : (Lit.int .i64 a0).wf = true) (a1 : Int) (w1 : (Lit.int .i64 a1).wf = true) (a2 : Int) (w2 : (Lit.int .i64 a2).wf = true) (w : World) :
    Calls Try.prog 9 #[.int .i64 a0, .int .i64 a1, .int .i64 a2] w fun e w' => e = .returned (.bool true) ∧ Below w.heap.size w w' := by
  have h0 := inInt_of w0
  have h1 := inInt_of w1
  have h2 := inInt_of w2
  have hz : inInt 0 := by unfold inInt; omega
  clear w0 w1 w2
  by_cases h01 : inInt (a0 + a1)
  · by_cases h012 : inInt (a0 + a1 + a2)
    · by_cases h12 : inInt (a1 + a2)
      · go_enter Try.func9, Try.ntmps9
        go_wp2_with fail
        refine (add_yes a0 a1 _ _ h0 h1 rfl h01).mono ?_
        rintro e w1 ⟨rfl, rfl⟩
        go_wp2_with fail
        refine (add_yes a1 a0 (a0 + a1) _ h1 h0 (by omega) h01).mono ?_
        rintro e w1 ⟨rfl, rfl⟩
        go_wp2_with fail
        refine (numMul_any a0 a1 _ h0 h1).mono ?_
        rintro e w1 ⟨rfl, rfl⟩
        go_wp2_with fail
        refine (mul_swap a0 a1 _ h0 h1).mono ?_
        rintro e w1 ⟨rfl, rfl⟩
        go_wp2_with fail
        refine (sub_yes (a0 + a1) a1 a0 _ h01 h1 (by omega) h0).mono ?_
        rintro e w1 ⟨rfl, rfl⟩
        go_wp2_with fail
        refine (add_yes (a0 + a1) a2 _ _ h01 h2 rfl h012).mono ?_
        rintro e w1 ⟨rfl, rfl⟩
        go_wp2_with fail
        refine (add_yes a1 a2 _ _ h1 h2 rfl h12).mono ?_
        rintro e w1 ⟨rfl, rfl⟩
        go_wp2_with fail
        refine (add_yes a0 (a1 + a2) (a0 + a1 + a2) _ h0 h12 (by omega) h012).mono ?_
        rintro e w1 ⟨rfl, rfl⟩
        go_wp2_with fail
        refine (add_yes a0 0 a0 _ h0 hz (by omega) h0).mono ?_
        rintro e w1 ⟨rfl, rfl⟩
        go_wp2_with fail
        refine (mul_one' a0 _ h0).mono ?_
        rintro e w1 ⟨rfl, rfl⟩
        go_wp2
        go_ret
        exact ⟨rfl, Below.refl _ _⟩
      · go_enter Try.func9, Try.ntmps9
        go_wp2_with fail
        refine (add_yes a0 a1 _ _ h0 h1 rfl h01).mono ?_
        rintro e w1 ⟨rfl, rfl⟩
        go_wp2_with fail
        refine (add_yes a1 a0 (a0 + a1) _ h1 h0 (by omega) h01).mono ?_
        rintro e w1 ⟨rfl, rfl⟩
        go_wp2_with fail
        refine (numMul_any a0 a1 _ h0 h1).mono ?_
        rintro e w1 ⟨rfl, rfl⟩
        go_wp2_with fail
        refine (mul_swap a0 a1 _ h0 h1).mono ?_
        rintro e w1 ⟨rfl, rfl⟩
        go_wp2_with fail
        refine (sub_yes (a0 + a1) a1 a0 _ h01 h1 (by omega) h0).mono ?_
        rintro e w1 ⟨rfl, rfl⟩
        go_wp2_with fail
        refine (add_yes (a0 + a1) a2 _ _ h01 h2 rfl h012).mono ?_
        rintro e w1 ⟨rfl, rfl⟩
        go_wp2_with fail
        refine (add_no a1 a2 _ _ h1 h2 rfl h12).mono ?_
        rintro e w1 ⟨rfl, rfl⟩
        go_wp2_with fail
        refine (add_yes a0 0 a0 _ h0 hz (by omega) h0).mono ?_
        rintro e w1 ⟨rfl, rfl⟩
        go_wp2_with fail
        refine (mul_one' a0 _ h0).mono ?_
        rintro e w1 ⟨rfl, rfl⟩
        go_wp2
        go_ret
        exact ⟨rfl, Below.refl _ _⟩
    · go_enter Try.func9, Try.ntmps9
      go_wp2_with fail
      refine (add_yes a0 a1 _ _ h0 h1 rfl h01).mono ?_
      rintro e w1 ⟨rfl, rfl⟩
      go_wp2_with fail
      refine (add_yes a1 a0 (a0 + a1) _ h1 h0 (by omega) h01).mono ?_
      rintro e w1 ⟨rfl, rfl⟩
      go_wp2_with fail
      refine (numMul_any a0 a1 _ h0 h1).mono ?_
      rintro e w1 ⟨rfl, rfl⟩
      go_wp2_with fail
      refine (mul_swap a0 a1 _ h0 h1).mono ?_
      rintro e w1 ⟨rfl, rfl⟩
      go_wp2_with fail
      refine (sub_yes (a0 + a1) a1 a0 _ h01 h1 (by omega) h0).mono ?_
      rintro e w1 ⟨rfl, rfl⟩
      go_wp2_with fail
      refine (add_no (a0 + a1) a2 _ _ h01 h2 rfl h012).mono ?_
      rintro e w1 ⟨rfl, rfl⟩
      go_wp2_with fail
      refine (add_yes a0 0 a0 _ h0 hz (by omega) h0).mono ?_
      rintro e w1 ⟨rfl, rfl⟩
      go_wp2_with fail
      refine (mul_one' a0 _ h0).mono ?_
      rintro e w1 ⟨rfl, rfl⟩
      go_wp2
      go_ret
      exact ⟨rfl, Below.refl _ _⟩
  · go_enter Try.func9, Try.ntmps9
    go_wp2_with fail
    refine (add_no a0 a1 _ _ h0 h1 rfl h01).mono ?_
    rintro e w1 ⟨rfl, rfl⟩
    go_wp2_with fail
    refine (add_no a1 a0 (a0 + a1) _ h1 h0 (by omega) h01).mono ?_
    rintro e w1 ⟨rfl, rfl⟩
    go_wp2_with fail
    refine (numMul_any a0 a1 _ h0 h1).mono ?_
    rintro e w1 ⟨rfl, rfl⟩
    go_wp2_with fail
    refine (mul_swap a0 a1 _ h0 h1).mono ?_
    rintro e w1 ⟨rfl, rfl⟩
    go_wp2_with fail
    refine (add_yes a0 0 a0 _ h0 hz (by omega) h0).mono ?_
    rintro e w1 ⟨rfl, rfl⟩
    go_wp2_with fail
    refine (mul_one' a0 _ h0).mono ?_
    rintro e w1 ⟨rfl, rfl⟩
    go_wp2
    go_ret
    exact ⟨rfl, Below.refl _ _⟩

end Go.Proofs.Ytliebkpcnojpdaa
