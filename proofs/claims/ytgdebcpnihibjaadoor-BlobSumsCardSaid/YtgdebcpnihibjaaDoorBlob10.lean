/- The walks of Incr; blob.Op at every list. -/
import Derived.Test.YtgdebcpnihibjaaDoorBlob9
import Derived.Test.YtgdebcpnihibjaaDoorNumPrintsW
import Derived.Test.YtgdebcpnihibjaaDoorNumParsesW
import Derived.Test.YtgdebcpnihibjaaDoorNumSum
import Derived.Test.YtgdebcpnihibjaaDoorLRow
namespace Go.Proofs.YtgdebcpnihibjaaDoor
open Go.ChangeShapes Go.WideShapes Go.ChangeAt Go.RowKit
set_option linter.unusedVariables false

/-- What Incr gives. -/
def incrV (s : ByteArray) (y : Int) : Value :=
  match Pl.refP s.data.toList with
  | none => .tuple #[.string (str []), .int .i64 0, .int .i64 10]
  | some n => if inInt (n + y) then .tuple #[.string (str (Lib.itoa (n + y))), .int .i64 (n + y), .int .i64 0] else .tuple #[.string (str []), .int .i64 0, .int .i64 11]
theorem incrV_none {s : ByteArray} {y : Int} (h : Pl.refP s.data.toList = none) : incrV s y = .tuple #[.string (str []), .int .i64 0, .int .i64 10] := by unfold incrV; rw [h]
theorem incrV_yes {s : ByteArray} {y n : Int} (h : Pl.refP s.data.toList = some n) (hi : inInt (n + y)) : incrV s y = .tuple #[.string (str (Lib.itoa (n + y))), .int .i64 (n + y), .int .i64 0] := by unfold incrV; rw [h]; exact if_pos hi
theorem incrV_no {s : ByteArray} {y n : Int} (h : Pl.refP s.data.toList = some n) (hi : ¬ inInt (n + y)) : incrV s y = .tuple #[.string (str []), .int .i64 0, .int .i64 11] := by unfold incrV; rw [h]; exact if_neg hi
def IncrEnd (s : ByteArray) (y : Int) (w : World) (e : Ending) (w' : World) : Prop := e = .returned (incrV s y) ∧ Below w.heap.size w w'
theorem incr_any (s : ByteArray) (hs : s.size ≤ 140737488351232) (y : Int) (hy : inInt y) (w : World) (h : Pows w) (hv : Sents w) :
    Calls Tryd.prog 27 #[.string s, .int .i64 y] w (IncrEnd s y w) := by
  have hp := numParse_any s hs w h hv
  unfold IncrEnd
  have H := Lib.hid h
  clear h hv
  rcases ho : Pl.refP s.data.toList with _ | n
  · rw [incrV_none ho]
    rw [ho] at hp
    have HP := Lib.hid hp
    clear hp ho
    go_enter Tryd.func27, Tryd.ntmps27
    go_wp2_with fail
    ((with_reducible refine HP.out.mono ?_); rintro e w1 ⟨rfl, b1⟩)
    simp only [optV]
    go_wp2
    go_ret3
    exact ⟨rfl, b1⟩
  · rw [ho] at hp
    obtain ⟨n1, n2, -⟩ := Pl.refP_itoa ho
    have hn : inInt n := ⟨n1, n2⟩
    have HP := Lib.hid hp
    clear hp
    by_cases hi : inInt (n + y)
    · obtain ⟨e1, e2⟩ := sum_yes hi
      rw [incrV_yes ho hi]
      clear ho
      have ha := fun W => numAdd_any n y W hn hy
      rw [e1, e2] at ha
      have HA := Lib.hid ha
      have hm1 := hi.1
      have hm2 := hi.2
      clear ha e1 e2 hn hy hi n1 n2
      obtain ⟨m, hm⟩ : ∃ m, n + y = m := ⟨_, rfl⟩
      rw [hm] at HA hm1 hm2 ⊢
      clear hm
      go_enter Tryd.func27, Tryd.ntmps27
      go_wp2_with fail
      ((with_reducible refine HP.out.mono ?_); rintro e w1 ⟨rfl, b1⟩)
      simp only [optV]
      go_wp2_with fail
      ((with_reducible refine (HA.out _).mono ?_); rintro e w2 ⟨rfl, rfl⟩)
      go_wp2_with fail
      ((with_reducible refine (print_any m hm1 hm2 _ (H.out.kept (B := 0) b1)).mono ?_); rintro e w3 ⟨rfl, b3⟩)
      go_wp2
      go_ret3
      exact ⟨rfl, b1.trans (b3.mono b1.size)⟩
    · obtain ⟨e1, e2⟩ := sum_no hi
      rw [incrV_no ho hi]
      clear ho
      have ha := fun W => numAdd_any n y W hn hy
      rw [e1, e2] at ha
      have HA := Lib.hid ha
      clear ha e1 e2 hn hy hi n1 n2
      go_enter Tryd.func27, Tryd.ntmps27
      go_wp2_with fail
      ((with_reducible refine HP.out.mono ?_); rintro e w1 ⟨rfl, b1⟩)
      simp only [optV]
      go_wp2_with fail
      ((with_reducible refine (HA.out _).mono ?_); rintro e w2 ⟨rfl, rfl⟩)
      go_wp2
      go_ret3
      exact ⟨rfl, b1⟩
theorem refIncr_any (s : ByteArray) (hs : s.size ≤ 140737488351232) (y : Int) (hy : inInt y) (w : World) :
    Calls Tryd.prog 28 #[.string s, .int .i64 y] w (IncrEnd s y w) := by
  have hp := refParse_any s hs w
  unfold IncrEnd
  rcases ho : Pl.refP s.data.toList with _ | n
  · rw [incrV_none ho]
    rw [ho] at hp
    have HP := Lib.hid hp
    clear hp ho
    go_enter Tryd.func28, Tryd.ntmps28
    go_wp2_with fail
    ((with_reducible refine HP.out.mono ?_); rintro e w1 ⟨rfl, b1⟩)
    simp only [optV]
    go_wp2
    go_ret3
    exact ⟨rfl, b1⟩
  · rw [ho] at hp
    obtain ⟨n1, n2, -⟩ := Pl.refP_itoa ho
    have hn : inInt n := ⟨n1, n2⟩
    have HP := Lib.hid hp
    clear hp
    by_cases hi : inInt (n + y)
    · obtain ⟨e1, e2⟩ := sum_yes hi
      rw [incrV_yes ho hi]
      clear ho
      have ha := fun W => refAdd_any n y W hn hy
      rw [e1, e2] at ha
      have HA := Lib.hid ha
      have hm1 := hi.1
      have hm2 := hi.2
      clear ha e1 e2 hn hy hi n1 n2
      obtain ⟨m, hm⟩ : ∃ m, n + y = m := ⟨_, rfl⟩
      rw [hm] at HA hm1 hm2 ⊢
      clear hm
      go_enter Tryd.func28, Tryd.ntmps28
      go_wp2_with fail
      ((with_reducible refine HP.out.mono ?_); rintro e w1 ⟨rfl, b1⟩)
      simp only [optV]
      go_wp2_with fail
      ((with_reducible refine (HA.out _).mono ?_); rintro e w2 ⟨rfl, rfl⟩)
      go_wp2_with fail
      ((with_reducible refine (refPrint_any m hm1 hm2 _).mono ?_); rintro e w3 ⟨rfl, b3⟩)
      go_wp2
      go_ret3
      exact ⟨rfl, b1.trans (b3.mono b1.size)⟩
    · obtain ⟨e1, e2⟩ := sum_no hi
      rw [incrV_no ho hi]
      clear ho
      have ha := fun W => refAdd_any n y W hn hy
      rw [e1, e2] at ha
      have HA := Lib.hid ha
      clear ha e1 e2 hn hy hi n1 n2
      go_enter Tryd.func28, Tryd.ntmps28
      go_wp2_with fail
      ((with_reducible refine HP.out.mono ?_); rintro e w1 ⟨rfl, b1⟩)
      simp only [optV]
      go_wp2_with fail
      ((with_reducible refine (HA.out _).mono ?_); rintro e w2 ⟨rfl, rfl⟩)
      go_wp2
      go_ret3
      exact ⟨rfl, b1⟩

theorem op_bad1 (op : Int) (ao : Option Addr) (L cp : Nat) (h : op < 1) (w : World) : Calls Tryd.prog 25 #[.int .i64 op, .slice ao L cp] w fun e w' => e = .returned (.tuple #[.string (str []), .int .i64 82]) ∧ w = w' := by
  go_enter Tryd.func25, Tryd.ntmps25
  go_wp2
  go_ret2
  exact ⟨rfl, rfl⟩
theorem op_bad2 (op : Int) (ao : Option Addr) (L cp : Nat) (h : 4 < op) (w : World) : Calls Tryd.prog 25 #[.int .i64 op, .slice ao L cp] w fun e w' => e = .returned (.tuple #[.string (str []), .int .i64 82]) ∧ w = w' := by
  have h1 : decide (op < 1) = false := decide_eq_false (by omega)
  have h2 : decide (4 < op) = true := decide_eq_true h
  clear h
  go_enter Tryd.func25, Tryd.ntmps25
  go_wp2
  go_ret2
  exact ⟨rfl, rfl⟩
theorem op_bad3 (op : Int) (ao : Option Addr) (cp : Nat) (h : 1 ≤ op) (h' : op ≤ 4) (w : World) : Calls Tryd.prog 25 #[.int .i64 op, .slice ao 0 cp] w fun e w' => e = .returned (.tuple #[.string (str []), .int .i64 82]) ∧ w = w' := by
  have h1 : decide (op < 1) = false := decide_eq_false (by omega)
  have h2 : decide (4 < op) = false := decide_eq_false (by omega)
  clear h h'
  go_enter Tryd.func25, Tryd.ntmps25
  go_wp2
  go_ret2
  exact ⟨rfl, rfl⟩
theorem op_bad4 (ao : Option Addr) (L cp : Nat) (hL : 1 < L) (hL2 : L ≤ 9223372036854775807) (w : World) : Calls Tryd.prog 25 #[.int .i64 4, .slice ao L cp] w fun e w' => e = .returned (.tuple #[.string (str []), .int .i64 82]) ∧ w = w' := by
  have h1 : decide ((1 : Int) < (L : Int)) = true := decide_eq_true (by omega)
  have h2 : ((L : Int) == 0) = false := by rw [beq_eq_false_iff_ne]; omega
  clear hL
  go_enter Tryd.func25, Tryd.ntmps25
  go_wp2
  go_ret2
  exact ⟨rfl, rfl⟩

theorem refOp_bad1 (op : Int) (ao : Option Addr) (L cp : Nat) (h : op < 1) (w : World) : Calls Tryd.prog 26 #[.int .i64 op, .slice ao L cp] w fun e w' => e = .returned (.tuple #[.string (str []), .int .i64 82]) ∧ w = w' := by
  go_enter Tryd.func26, Tryd.ntmps26
  go_wp2
  go_ret2
  exact ⟨rfl, rfl⟩
theorem refOp_bad2 (op : Int) (ao : Option Addr) (L cp : Nat) (h : 4 < op) (w : World) : Calls Tryd.prog 26 #[.int .i64 op, .slice ao L cp] w fun e w' => e = .returned (.tuple #[.string (str []), .int .i64 82]) ∧ w = w' := by
  have h1 : decide (op < 1) = false := decide_eq_false (by omega)
  have h2 : decide (4 < op) = true := decide_eq_true h
  clear h
  go_enter Tryd.func26, Tryd.ntmps26
  go_wp2
  go_ret2
  exact ⟨rfl, rfl⟩
theorem refOp_bad3 (op : Int) (ao : Option Addr) (cp : Nat) (h : 1 ≤ op) (h' : op ≤ 4) (w : World) : Calls Tryd.prog 26 #[.int .i64 op, .slice ao 0 cp] w fun e w' => e = .returned (.tuple #[.string (str []), .int .i64 82]) ∧ w = w' := by
  have h1 : decide (op < 1) = false := decide_eq_false (by omega)
  have h2 : decide (4 < op) = false := decide_eq_false (by omega)
  clear h h'
  go_enter Tryd.func26, Tryd.ntmps26
  go_wp2
  go_ret2
  exact ⟨rfl, rfl⟩
theorem refOp_bad4 (ao : Option Addr) (L cp : Nat) (hL : 1 < L) (hL2 : L ≤ 9223372036854775807) (w : World) : Calls Tryd.prog 26 #[.int .i64 4, .slice ao L cp] w fun e w' => e = .returned (.tuple #[.string (str []), .int .i64 82]) ∧ w = w' := by
  have h1 : decide ((1 : Int) < (L : Int)) = true := decide_eq_true (by omega)
  have h2 : ((L : Int) == 0) = false := by rw [beq_eq_false_iff_ne]; omega
  clear hL
  go_enter Tryd.func26, Tryd.ntmps26
  go_wp2
  go_ret2
  exact ⟨rfl, rfl⟩
end Go.Proofs.YtgdebcpnihibjaaDoor
