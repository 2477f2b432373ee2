/- Head, ParseHead, and the first example, awake. -/
import Derived.Test.YtehggdflhjgkeaaFrame8
import Derived.Laws.StructEq
namespace Go.Proofs.Ytehggdflhjgkeaa
open Go.ChangeShapes Go.WideShapes Go.ChangeAt Go.RowKit
set_option linter.unusedVariables false

theorem enc_awake (w : World) :
    Calls Try.prog 10 #[.agg #[.int .u64 1, .string ⟨#[97, 98]⟩]] w fun e w' => e = .returned (.tuple #[.string ⟨#[2, 0, 0, 0, 0, 0, 0, 0, 1, 0, 0, 0, 0, 0, 0, 0, 168, 110, 177, 167, 97, 98, 218, 89, 18, 211, 10]⟩, .int .i64 0]) ∧ Below w.heap.size w w' := by
  have h := enc_ok 1 ⟨#[97, 98]⟩ (by omega) (by decide) (by decide) w
  have e : str (Pl.encL 1 (⟨#[97, 98]⟩ : ByteArray).data.toList) = ⟨#[2, 0, 0, 0, 0, 0, 0, 0, 1, 0, 0, 0, 0, 0, 0, 0, 168, 110, 177, 167, 97, 98, 218, 89, 18, 211, 10]⟩ := by
    have : Pl.encL 1 [97, 98] = [2, 0, 0, 0, 0, 0, 0, 0, 1, 0, 0, 0, 0, 0, 0, 0, 168, 110, 177, 167, 97, 98, 218, 89, 18, 211, 10] := by decide +kernel
    show str (Pl.encL 1 [97, 98]) = _
    rw [this]; rfl
  rw [e] at h
  exact h
theorem dec_awake (w : World) :
    Calls Try.prog 15 #[.string ⟨#[2, 0, 0, 0, 0, 0, 0, 0, 1, 0, 0, 0, 0, 0, 0, 0, 168, 110, 177, 167, 97, 98, 218, 89, 18, 211, 10, 120]⟩] w fun e w' => e = .returned (.tuple #[.agg #[.int .u64 1, .string ⟨#[97, 98]⟩], .int .i64 27, .int .i64 0]) ∧ Below w.heap.size w w' := by
  have h := dec_any ⟨#[2, 0, 0, 0, 0, 0, 0, 0, 1, 0, 0, 0, 0, 0, 0, 0, 168, 110, 177, 167, 97, 98, 218, 89, 18, 211, 10, 120]⟩ w (by decide)
  have e : Pl.dec [2, 0, 0, 0, 0, 0, 0, 0, 1, 0, 0, 0, 0, 0, 0, 0, 168, 110, 177, 167, 97, 98, 218, 89, 18, 211, 10, 120] = ⟨1, [97, 98], 27, 0⟩ := by
    have e1 : Pl.encL 1 [97, 98] ++ [120] = [2, 0, 0, 0, 0, 0, 0, 0, 1, 0, 0, 0, 0, 0, 0, 0, 168, 110, 177, 167, 97, 98, 218, 89, 18, 211, 10, 120] := by decide +kernel
    have h2 := Pl.dec_back (n := 1) (b := [97, 98]) (by omega) (by omega) (by decide) [120]
    rw [e1] at h2
    exact h2
  have e3 : (⟨#[2, 0, 0, 0, 0, 0, 0, 0, 1, 0, 0, 0, 0, 0, 0, 0, 168, 110, 177, 167, 97, 98, 218, 89, 18, 211, 10, 120]⟩ : ByteArray).data.toList = [2, 0, 0, 0, 0, 0, 0, 0, 1, 0, 0, 0, 0, 0, 0, 0, 168, 110, 177, 167, 97, 98, 218, 89, 18, 211, 10, 120] := rfl
  rw [e3, e] at h
  exact h

set_option maxHeartbeats 1600000 in
theorem awake_any (w : World) : Calls Try.prog 14 #[] w fun e w' => e = .returned (.bool true) ∧ Below w.heap.size w w' := by
  have x1 : (⟨#[2, 0, 0, 0, 0, 0, 0, 0, 1, 0, 0, 0, 0, 0, 0, 0, 168, 110, 177, 167, 97, 98, 218, 89, 18, 211, 10]⟩ : ByteArray).extract 0 16 = ⟨#[2, 0, 0, 0, 0, 0, 0, 0, 1, 0, 0, 0, 0, 0, 0, 0]⟩ := by decide +kernel
  have x2 : (⟨#[2, 0, 0, 0, 0, 0, 0, 0, 1, 0, 0, 0, 0, 0, 0, 0, 168, 110, 177, 167, 97, 98, 218, 89, 18, 211, 10]⟩ : ByteArray).extract 20 22 = ⟨#[97, 98]⟩ := by decide +kernel
  go_enter Try.func14, Try.ntmps14
  go_wp2_with fail
  refine (enc_awake _).mono ?_
  rintro e w1 ⟨rfl, b1⟩
  go_wp2_with fail
  refine (dec_awake _).mono ?_
  rintro e w2 ⟨rfl, b2⟩
  go_wp2
  go_ret
  have b12 := b1.trans (b2.mono b1.size)
  exact ⟨rfl, b12.alloc b12.size _⟩

/-- The text of a head. -/
def headS (n : Nat) : ByteArray := if n = 0 then ⟨#[]⟩ else ⟨#[67, 79, 86, 69, 78, 65, 78, 84]⟩ ++ fix8S n
theorem head_any (n : Nat) (w : World) (hn : n ≤ 18446744073709551615) :
    Calls Try.prog 12 #[.int .u64 n] w fun e w' => e = .returned (.string (headS n)) ∧ Below w.heap.size w w' := by
  unfold headS
  by_cases h : n = 0
  · rw [if_pos h]
    have h' : ((n : Int) == 0) = true := by rw [beq_iff_eq]; omega
    go_enter Try.func12, Try.ntmps12
    go_wp2
    go_ret
    exact ⟨rfl, Below.refl _ _⟩
  · rw [if_neg h]
    have h' : ((n : Int) == 0) = false := by rw [beq_eq_false_iff_ne]; omega
    have hc := fun W => run_string_add_sum (P := Try.prog) W ⟨#[67, 79, 86, 69, 78, 65, 78, 84]⟩ (fix8S n) (by rw [fix8S_size]; decide)
    go_enter Try.func12, Try.ntmps12
    go_wp2_with fail
    refine (frFix8 n hn (Below.refl _ _)).mono ?_
    rintro e w1 ⟨rfl, b1⟩
    go_wp2
    go_ret
    exact ⟨rfl, b1⟩
theorem refHead_any (n : Nat) (w : World) (hn : n ≤ 18446744073709551615) :
    Calls Try.prog 13 #[.int .u64 n] w fun e w' => e = .returned (.string (headS n)) ∧ Below w.heap.size w w' := by
  unfold headS
  by_cases h : n = 0
  · rw [if_pos h]
    have h' : ((n : Int) == 0) = true := by rw [beq_iff_eq]; omega
    go_enter Try.func13, Try.ntmps13
    go_wp2
    go_ret
    exact ⟨rfl, Below.refl _ _⟩
  · rw [if_neg h]
    have h' : ((n : Int) == 0) = false := by rw [beq_eq_false_iff_ne]; omega
    have hc := fun W => run_string_add_sum (P := Try.prog) W ⟨#[67, 79, 86, 69, 78, 65, 78, 84]⟩ (fix8S n) (by rw [fix8S_size]; decide)
    go_enter Try.func13, Try.ntmps13
    go_wp2_with fail
    refine (reFix8 n hn (Below.refl _ _)).mono ?_
    rintro e w1 ⟨rfl, b1⟩
    go_wp2
    go_ret
    exact ⟨rfl, b1⟩

end Go.Proofs.Ytehggdflhjgkeaa
