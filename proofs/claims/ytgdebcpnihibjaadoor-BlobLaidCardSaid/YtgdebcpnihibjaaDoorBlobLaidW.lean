/- The walk of BlobLaid. -/
import Derived.Test.YtgdebcpnihibjaaDoorBlobSetW
import Derived.Deep.QuietTactic
import Derived.BigQuiet
import Derived.Deep.RegionHeld3
import Derived.IntWalk
namespace Go.Proofs.YtgdebcpnihibjaaDoor
open Go.ChangeShapes Go.WideShapes Go.ChangeAt Go.RowKit
set_option linter.unusedVariables false

/-- What the calls and the cuts give. -/
def LaidFacts (s t u p q : ByteArray) (A k : Nat) : Prop :=
  (∀ W, Calls Tryd.prog 15 #[.string s, .int .i64 A, .string t] W fun e w' => e = .returned (.tuple #[.string u, .int .i64 0]) ∧ Below W.heap.size W w') ∧
  (∀ W, Calls Tryd.prog 12 #[.string u, .int .i64 A, .int .i64 ((A : Int) + (t.size : Int) - 1)] W fun e w' => e = .returned (.string t) ∧ W = w') ∧
  (∀ W, Calls Tryd.prog 29 #[.string q, .string p] W fun e w' => e = .returned (.bool true) ∧ W = w') ∧
  u.extract 0 k = p ∧ s.extract 0 k = p ∧ u.extract 0 A = q ∧ u.size = max s.size (A + t.size) ∧ min A s.size = k ∧ (A + t.size ≤ s.size → u.extract (A + t.size) u.size = s.extract (A + t.size) s.size)
theorem laid_facts (s t : ByteArray) (A : Nat) (hA : A ≤ 65536) (hs : s.size ≤ 65536) (ht : t.size ≤ 65536) (h0 : 0 < t.size) : ∃ u p q k, LaidFacts s t u p q A k := by
  have hus : (str (Pl.layL s.data.toList A t.data.toList)).size = max s.size (A + t.size) := by rw [str_size, Pl.layL_length, len_toList, len_toList]
  refine ⟨str (Pl.layL s.data.toList A t.data.toList), str (s.data.toList.take (min A s.size)), str ((Pl.layL s.data.toList A t.data.toList).take A), min A s.size, fun W => splice_ok s t A (isEmpty_of_pos h0) (by omega) (by omega) W, fun W => ?_, fun W => zeros_yes _ _ ?_ ?_ W, ?_, ?_, ?_, hus, rfl, fun h => ?_⟩
  · refine (blobRange_any _ (by rw [hus]; omega) (A : Int) ((A : Int) + (t.size : Int) - 1) (by omega) (by omega) (by omega) (by omega) W).mono fun e w' ⟨h1, h2⟩ => ⟨?_, h2⟩
    rw [h1]
    congr 2
    have hp : Pl.pfrom (str (Pl.layL s.data.toList A t.data.toList)).size A ((A : Int) + (t.size : Int) - 1) = (A : Int) ∧ Pl.pto (str (Pl.layL s.data.toList A t.data.toList)).size A ((A : Int) + (t.size : Int) - 1) = ((A + t.size : Nat) : Int) := by
      rw [hus]
      simp only [Pl.pfrom, Pl.pto, Pl.none1, Pl.from1, Pl.to1]
      omega
    rw [range_nat hp.1 hp.2, show A + t.size - A = t.data.toList.length by rw [len_toList]; omega, str_toList, Pl.lay_mid, str_of]
  · rw [str_size, List.length_take]; omega
  · rw [str_toList, str_toList]
    have := Pl.lay_zeros s.data.toList A t.data.toList (by rw [len_toList]; exact h0)
    rwa [len_toList] at this
  · rw [extract_str, str_toList, List.drop_zero, Pl.lay_head _ _ _ _ (by omega) (by rw [len_toList]; omega)]
  · rw [extract_str, List.drop_zero]
  · rw [extract_str, str_toList, List.drop_zero]
  · rw [extract_str, extract_str, hus, str_toList, show max s.size (A + t.size) = s.size by omega, take_all, List.take_of_length_le (by rw [Pl.layL_length, len_toList, len_toList]; omega), ← len_toList t, Pl.lay_tail _ _ _ (by rw [len_toList, len_toList]; exact h)]
set_option maxRecDepth 100000 in
set_option maxHeartbeats 1600000 in
theorem laid_big (s : ByteArray) (hs : s.size ≤ 140737488351232) (a : Int) (t : ByteArray) (ht : t.size ≤ 140737488351232) (hbig : 65536 < t.size ∨ 65536 < s.size ∨ t.size = 0) (w : World) (h : Pows w) (hv : Sents w) :
    Calls Tryd.prog 10 #[.string s, .int .i64 a, .string t] w fun e w' => e = .returned (.bool true) ∧ Below w.heap.size w w' := by
  obtain ⟨A, hA, hA2⟩ := clamp a
  have H := Lib.hid h
  have HV := Lib.hid hv
  clear h hv
  have hcase : (decide ((65536 : Int) < (t.size : Int)) = true) ∨ (decide ((65536 : Int) < (t.size : Int)) = false ∧ decide ((65536 : Int) < (s.size : Int)) = true) ∨ (decide ((65536 : Int) < (t.size : Int)) = false ∧ decide ((65536 : Int) < (s.size : Int)) = false ∧ t = ⟨#[]⟩) := by
    by_cases h1 : 65536 < t.size
    · exact .inl (decide_eq_true (by omega))
    · by_cases h2 : 65536 < s.size
      · exact .inr (.inl ⟨decide_eq_false (by omega), decide_eq_true (by omega)⟩)
      · exact .inr (.inr ⟨decide_eq_false (by omega), decide_eq_false (by omega), str_nil_of (by omega)⟩)
  clear hbig
  rcases hcase with h1 | ⟨h1, h2⟩ | ⟨h1, h2, rfl⟩
  all_goals
    go_enter Tryd.func10, Tryd.ntmps10
    go_wp2_with fail
    ((with_reducible refine (sure_any _ H.out HV.out).mono ?_); rintro e w12 ⟨rfl, k12⟩)
    go_wp2
    go_ret
    exact ⟨rfl, k12⟩
theorem sure_rel2 {w : World} (h : Pows w) (hv : Sents w) (w1 : World) (hb : Below w.heap.size w w1) :
    Calls Tryd.prog 14 #[] w1 fun e w' => e = .returned (.bool true) ∧ Below w.heap.size w w' :=
  (sure_any w1 (h.kept (B := 0) hb) (hv.kept hb)).mono fun e w' ⟨h1, h2⟩ => ⟨h1, hb.trans (h2.mono hb.size)⟩
set_option maxRecDepth 100000 in
set_option maxHeartbeats 1600000 in
theorem laid_small (s : ByteArray) (hs : s.size ≤ 65536) (a : Int) (t : ByteArray) (ht : t.size ≤ 65536) (h0 : 0 < t.size) (w : World) (h : Pows w) (hv : Sents w) :
    Calls Tryd.prog 10 #[.string s, .int .i64 a, .string t] w fun e w' => e = .returned (.bool true) ∧ Below w.heap.size w w' := by
  obtain ⟨A, hA, hA2⟩ := clamp a
  obtain ⟨u, p, q, k, c1, c2, c3, e1, e2, e3, e4, e5, e6⟩ := laid_facts s t A hA2 hs ht h0
  have H := Lib.hid h
  have HV := Lib.hid hv
  have C1 := Lib.hid c1
  have C2 := Lib.hid c2
  have C3 := Lib.hid c3
  have E6 := Lib.hid e6
  have g1 : decide ((65536 : Int) < (t.size : Int)) = false := decide_eq_false (by omega)
  have g2 : decide ((65536 : Int) < (s.size : Int)) = false := decide_eq_false (by omega)
  have g3 := isEmpty_of_pos h0
  have g4 : ((u.size : Int) != max (s.size : Int) ((A : Int) + (t.size : Int))) = false := by rw [bne_eq_false_iff_eq]; omega
  have g5 : min (A : Int) (s.size : Int) = (k : Int) := by omega
  have k1 : k ≤ s.size := by omega
  have k2 : k ≤ u.size := by omega
  have k3 : A ≤ u.size := by omega
  have k4 : u.size ≤ 131072 := by omega
  have k5 : A + t.size ≤ u.size := by omega
  clear h hv c1 c2 c3 e6 e4 e5
  go_enter Tryd.func10, Tryd.ntmps10
  go_wp2_with fail
  ((with_reducible refine (C1.out _).mono ?_); rintro e w1 ⟨rfl, b1⟩)
  go_wp2_with fail
  ((with_reducible refine (C2.out _).mono ?_); rintro e w2 ⟨rfl, rfl⟩)
  have i1 : (0 : Int) ≤ (k : Int) := by omega
  have i2 : (k : Int) ≤ (s.size : Int) := by omega
  have i3 : (k : Int) ≤ (u.size : Int) := by omega
  have i4 : (0 : Int) ≤ (A : Int) := by omega
  have i5 : (A : Int) ≤ (u.size : Int) := by omega
  go_wp2_with fail
  go_quiet ((refine Calls.quiet_of_same ((C3.out _).mono fun e w' ⟨h1, h2⟩ => ⟨h1, h2.symm⟩)))
  have B1 := below_drewN b1 nq
  generalize w1.drewN nq = wq at *
  clear b1
  obtain ⟨m, hm⟩ : ∃ m, A + t.size = m := ⟨_, rfl⟩
  rw [hm] at k5
  have hsum : IntKind.i64.wrap ((A : Int) + (t.size : Int)) = (m : Int) := by rw [← hm]; exact IntWalk.i64_in _ (by omega)
  have HM := Lib.hid hm
  clear hm
  by_cases hge : s.size ≤ m
  · have d1 : decide ((s.size : Int) ≤ (m : Int)) = true := decide_eq_true (by omega)
    go_wp2_with fail
    refine wp_region_held_drew (S := (fun w' => Below w.heap.size w w')) (by kernel_rfl) ?_ (fun hHeld => ?_)
    · first | assumption | exact Below.drew ‹_›
    refine wpAnyH_take (i := 0) (oi := (Go.Oper.mk (some 80) (Go.Op.move (Go.Operand.tmp 1)) 3 _ #[] none)) (v := ?_) rfl (by kernel_rfl) (by kernel_rfl) (by kernel_rfl) (fun _ _ _ h => h) (Or.inl ⟨by rfl, ?_⟩) hHeld ?_
    rotate_left
    · intro w hSw; (try dsimp only at hSw); go_simp; (try with_reducible rfl)
    simp only [Act.put, List.setIfInBounds_toArray, List.set_cons_zero, List.set_cons_succ]
    refine wpAnyH_take (i := 1) (oi := (Go.Oper.mk (some 81) (Go.Op.move (Go.Operand.tmp 2)) 9 _ #[] none)) (v := ?_) rfl (by kernel_rfl) (by kernel_rfl) (by kernel_rfl) (fun _ _ _ h => h) (Or.inl ⟨by rfl, ?_⟩) hHeld ?_
    rotate_left
    · intro w hSw; (try dsimp only at hSw); go_simp; (try with_reducible rfl)
    simp only [Act.put, List.setIfInBounds_toArray, List.set_cons_zero, List.set_cons_succ]
    refine wpAnyH_take (i := 2) (oi := (Go.Oper.mk (some 82) (Go.Op.call (Go.Call.mk (Go.Callee.builtin Go.Builtin.len) #[Go.Operand.tmp 81] #[9])) 3 _ #[Go.Edge.mk 1 Go.Ground.data] none)) (v := ?_) rfl (by kernel_rfl) (by kernel_rfl) (by kernel_rfl) (fun _ _ _ h => h) (Or.inl ⟨by rfl, ?_⟩) hHeld ?_
    rotate_left
    · intro w hSw; (try dsimp only at hSw); go_simp; (try with_reducible rfl)
    simp only [Act.put, List.setIfInBounds_toArray, List.set_cons_zero, List.set_cons_succ]
    refine wpAnyH_take (i := 3) (oi := (Go.Oper.mk (some 83) (Go.Op.binOp Go.BinOp.add 3 (Go.Operand.tmp 80) (Go.Operand.tmp 82) 3) 3 _ #[Go.Edge.mk 0 Go.Ground.data, Go.Edge.mk 2 Go.Ground.data] none)) (v := ?_) rfl (by kernel_rfl) (by kernel_rfl) (by kernel_rfl) (fun _ _ _ h => h) (Or.inl ⟨by rfl, ?_⟩) hHeld ?_
    rotate_left
    · intro w hSw; (try dsimp only at hSw); go_simp; (try with_reducible rfl)
    simp only [Act.put, List.setIfInBounds_toArray, List.set_cons_zero, List.set_cons_succ]
    refine wpAnyH_take (i := 4) (oi := (Go.Oper.mk (some 84) (Go.Op.move (Go.Operand.tmp 0)) 9 _ #[] none)) (v := ?_) rfl (by kernel_rfl) (by kernel_rfl) (by kernel_rfl) (fun _ _ _ h => h) (Or.inl ⟨by rfl, ?_⟩) hHeld ?_
    rotate_left
    · intro w hSw; (try dsimp only at hSw); go_simp; (try with_reducible rfl)
    simp only [Act.put, List.setIfInBounds_toArray, List.set_cons_zero, List.set_cons_succ]
    refine wpAnyH_take (i := 5) (oi := (Go.Oper.mk (some 85) (Go.Op.call (Go.Call.mk (Go.Callee.builtin Go.Builtin.len) #[Go.Operand.tmp 84] #[9])) 3 _ #[Go.Edge.mk 4 Go.Ground.data] none)) (v := ?_) rfl (by kernel_rfl) (by kernel_rfl) (by kernel_rfl) (fun _ _ _ h => h) (Or.inl ⟨by rfl, ?_⟩) hHeld ?_
    rotate_left
    · intro w hSw; (try dsimp only at hSw); go_simp; (try with_reducible rfl)
    simp only [Act.put, List.setIfInBounds_toArray, List.set_cons_zero, List.set_cons_succ]
    refine wpAnyH_take (i := 6) (oi := (Go.Oper.mk (some 86) (Go.Op.binOp Go.BinOp.geq 3 (Go.Operand.tmp 83) (Go.Operand.tmp 85) 3) 4 _ #[Go.Edge.mk 3 Go.Ground.data, Go.Edge.mk 5 Go.Ground.data] none)) (v := ?_) rfl (by kernel_rfl) (by kernel_rfl) (by kernel_rfl) (fun _ _ _ h => h) (Or.inl ⟨by rfl, ?_⟩) hHeld ?_
    rotate_left
    · intro w hSw; (try dsimp only at hSw); go_simp; (try with_reducible rfl)
    simp only [Act.put, List.setIfInBounds_toArray, List.set_cons_zero, List.set_cons_succ]
    refine wpAnyH_take (i := 7) (oi := (Go.Oper.mk (some 87) (Go.Op.move (Go.Operand.tmp 86)) 4 _ #[Go.Edge.mk 6 Go.Ground.data] none)) (v := ?_) rfl (by kernel_rfl) (by kernel_rfl) (by kernel_rfl) (fun _ _ _ h => h) (Or.inl ⟨by rfl, ?_⟩) hHeld ?_
    rotate_left
    · intro w hSw; (try dsimp only at hSw); go_simp; (try with_reducible rfl)
    simp only [Act.put, List.setIfInBounds_toArray, List.set_cons_zero, List.set_cons_succ]
    refine wpAnyH_take (i := 8) (oi := (Go.Oper.mk (some 88) (Go.Op.move (Go.Operand.tmp 7)) 9 _ #[Go.Edge.mk 7 Go.Ground.guard] (some (7, false)))) (v := undef) rfl (by kernel_rfl) (by kernel_rfl) (by kernel_rfl) (fun _ _ _ h => h) (Or.inr ⟨by rfl, rfl⟩) hHeld ?_
    simp only [Act.put, List.setIfInBounds_toArray, List.set_cons_zero, List.set_cons_succ]
    refine wpAnyH_take (i := 9) (oi := (Go.Oper.mk (some 89) (Go.Op.move (Go.Operand.tmp 1)) 3 _ #[Go.Edge.mk 7 Go.Ground.guard] (some (7, false)))) (v := undef) rfl (by kernel_rfl) (by kernel_rfl) (by kernel_rfl) (fun _ _ _ h => h) (Or.inr ⟨by rfl, rfl⟩) hHeld ?_
    simp only [Act.put, List.setIfInBounds_toArray, List.set_cons_zero, List.set_cons_succ]
    refine wpAnyH_take (i := 10) (oi := (Go.Oper.mk (some 90) (Go.Op.move (Go.Operand.tmp 2)) 9 _ #[Go.Edge.mk 7 Go.Ground.guard] (some (7, false)))) (v := undef) rfl (by kernel_rfl) (by kernel_rfl) (by kernel_rfl) (fun _ _ _ h => h) (Or.inr ⟨by rfl, rfl⟩) hHeld ?_
    simp only [Act.put, List.setIfInBounds_toArray, List.set_cons_zero, List.set_cons_succ]
    refine wpAnyH_take (i := 11) (oi := (Go.Oper.mk (some 91) (Go.Op.call (Go.Call.mk (Go.Callee.builtin Go.Builtin.len) #[Go.Operand.tmp 90] #[9])) 3 _ #[Go.Edge.mk 10 Go.Ground.data, Go.Edge.mk 7 Go.Ground.guard] (some (7, false)))) (v := undef) rfl (by kernel_rfl) (by kernel_rfl) (by kernel_rfl) (fun _ _ _ h => h) (Or.inr ⟨by rfl, rfl⟩) hHeld ?_
    simp only [Act.put, List.setIfInBounds_toArray, List.set_cons_zero, List.set_cons_succ]
    refine wpAnyH_take (i := 12) (oi := (Go.Oper.mk (some 92) (Go.Op.binOp Go.BinOp.add 3 (Go.Operand.tmp 89) (Go.Operand.tmp 91) 3) 3 _ #[Go.Edge.mk 9 Go.Ground.data, Go.Edge.mk 11 Go.Ground.data, Go.Edge.mk 7 Go.Ground.guard] (some (7, false)))) (v := undef) rfl (by kernel_rfl) (by kernel_rfl) (by kernel_rfl) (fun _ _ _ h => h) (Or.inr ⟨by rfl, rfl⟩) hHeld ?_
    simp only [Act.put, List.setIfInBounds_toArray, List.set_cons_zero, List.set_cons_succ]
    refine wpAnyH_take (i := 13) (oi := (Go.Oper.mk (some 93) (Go.Op.slice 9 (Go.Operand.tmp 88) (some (Go.Operand.tmp 92)) none none) 9 _ #[Go.Edge.mk 8 Go.Ground.data, Go.Edge.mk 12 Go.Ground.data, Go.Edge.mk 7 Go.Ground.guard] (some (7, false)))) (v := undef) rfl (by kernel_rfl) (by kernel_rfl) (by kernel_rfl) (fun _ _ _ h => h) (Or.inr ⟨by rfl, rfl⟩) hHeld ?_
    simp only [Act.put, List.setIfInBounds_toArray, List.set_cons_zero, List.set_cons_succ]
    refine wpAnyH_take (i := 14) (oi := (Go.Oper.mk (some 94) (Go.Op.move (Go.Operand.tmp 0)) 9 _ #[Go.Edge.mk 7 Go.Ground.guard] (some (7, false)))) (v := undef) rfl (by kernel_rfl) (by kernel_rfl) (by kernel_rfl) (fun _ _ _ h => h) (Or.inr ⟨by rfl, rfl⟩) hHeld ?_
    simp only [Act.put, List.setIfInBounds_toArray, List.set_cons_zero, List.set_cons_succ]
    refine wpAnyH_take (i := 15) (oi := (Go.Oper.mk (some 95) (Go.Op.move (Go.Operand.tmp 1)) 3 _ #[Go.Edge.mk 7 Go.Ground.guard] (some (7, false)))) (v := undef) rfl (by kernel_rfl) (by kernel_rfl) (by kernel_rfl) (fun _ _ _ h => h) (Or.inr ⟨by rfl, rfl⟩) hHeld ?_
    simp only [Act.put, List.setIfInBounds_toArray, List.set_cons_zero, List.set_cons_succ]
    refine wpAnyH_take (i := 16) (oi := (Go.Oper.mk (some 96) (Go.Op.move (Go.Operand.tmp 2)) 9 _ #[Go.Edge.mk 7 Go.Ground.guard] (some (7, false)))) (v := undef) rfl (by kernel_rfl) (by kernel_rfl) (by kernel_rfl) (fun _ _ _ h => h) (Or.inr ⟨by rfl, rfl⟩) hHeld ?_
    simp only [Act.put, List.setIfInBounds_toArray, List.set_cons_zero, List.set_cons_succ]
    refine wpAnyH_take (i := 17) (oi := (Go.Oper.mk (some 97) (Go.Op.call (Go.Call.mk (Go.Callee.builtin Go.Builtin.len) #[Go.Operand.tmp 96] #[9])) 3 _ #[Go.Edge.mk 16 Go.Ground.data, Go.Edge.mk 7 Go.Ground.guard] (some (7, false)))) (v := undef) rfl (by kernel_rfl) (by kernel_rfl) (by kernel_rfl) (fun _ _ _ h => h) (Or.inr ⟨by rfl, rfl⟩) hHeld ?_
    simp only [Act.put, List.setIfInBounds_toArray, List.set_cons_zero, List.set_cons_succ]
    refine wpAnyH_take (i := 18) (oi := (Go.Oper.mk (some 98) (Go.Op.binOp Go.BinOp.add 3 (Go.Operand.tmp 95) (Go.Operand.tmp 97) 3) 3 _ #[Go.Edge.mk 15 Go.Ground.data, Go.Edge.mk 17 Go.Ground.data, Go.Edge.mk 7 Go.Ground.guard] (some (7, false)))) (v := undef) rfl (by kernel_rfl) (by kernel_rfl) (by kernel_rfl) (fun _ _ _ h => h) (Or.inr ⟨by rfl, rfl⟩) hHeld ?_
    simp only [Act.put, List.setIfInBounds_toArray, List.set_cons_zero, List.set_cons_succ]
    refine wpAnyH_take (i := 19) (oi := (Go.Oper.mk (some 99) (Go.Op.slice 9 (Go.Operand.tmp 94) (some (Go.Operand.tmp 98)) none none) 9 _ #[Go.Edge.mk 14 Go.Ground.data, Go.Edge.mk 18 Go.Ground.data, Go.Edge.mk 7 Go.Ground.guard] (some (7, false)))) (v := undef) rfl (by kernel_rfl) (by kernel_rfl) (by kernel_rfl) (fun _ _ _ h => h) (Or.inr ⟨by rfl, rfl⟩) hHeld ?_
    simp only [Act.put, List.setIfInBounds_toArray, List.set_cons_zero, List.set_cons_succ]
    refine wpAnyH_take (i := 20) (oi := (Go.Oper.mk (some 100) (Go.Op.binOp Go.BinOp.eql 9 (Go.Operand.tmp 93) (Go.Operand.tmp 99) 9) 4 _ #[Go.Edge.mk 13 Go.Ground.data, Go.Edge.mk 19 Go.Ground.data, Go.Edge.mk 7 Go.Ground.guard] (some (7, false)))) (v := undef) rfl (by kernel_rfl) (by kernel_rfl) (by kernel_rfl) (fun _ _ _ h => h) (Or.inr ⟨by rfl, rfl⟩) hHeld ?_
    simp only [Act.put, List.setIfInBounds_toArray, List.set_cons_zero, List.set_cons_succ]
    refine wpAnyH_take (i := 21) (oi := (Go.Oper.mk (some 101) (Go.Op.pick (Go.Operand.tmp 87) (Go.Operand.const (Go.Value.bool true)) (Go.Operand.tmp 100)) 4 _ #[Go.Edge.mk 7 Go.Ground.data, Go.Edge.mk 20 Go.Ground.data] none)) (v := ?_) rfl (by kernel_rfl) (by kernel_rfl) (by kernel_rfl) (fun _ _ _ h => h) (Or.inl ⟨by rfl, ?_⟩) hHeld ?_
    rotate_left
    · intro w hSw; (try dsimp only at hSw); go_simp; (try with_reducible rfl)
    simp only [Act.put, List.setIfInBounds_toArray, List.set_cons_zero, List.set_cons_succ]
    refine wpAnyH_take (i := 22) (oi := (Go.Oper.mk (some 102) (Go.Op.move (Go.Operand.tmp 101)) 4 _ #[Go.Edge.mk 21 Go.Ground.data, Go.Edge.mk 7 Go.Ground.chain] none)) (v := ?_) rfl (by kernel_rfl) (by kernel_rfl) (by kernel_rfl) (fun _ _ _ h => h) (Or.inl ⟨by rfl, ?_⟩) hHeld ?_
    rotate_left
    · intro w hSw; (try dsimp only at hSw); go_simp; (try with_reducible rfl)
    simp only [Act.put, List.setIfInBounds_toArray, List.set_cons_zero, List.set_cons_succ]
    refine wpAnyH_ready (rs := [23]) (by kernel_rfl) (by simp) ?_
    refine AllReadyH.cons (o := (Go.Oper.mk (some 103) (Go.Op.call (Go.Call.mk (Go.Callee.value (Go.Operand.func 14)) #[] #[])) 4 _ #[Go.Edge.mk 22 Go.Ground.chain, Go.Edge.mk 22 Go.Ground.guard] (some (22, true)))) rfl (fun K hK => ?_) AllReadyH.nil
    go_simp
    first | (go_at_call 14; (with_reducible refine (sure_rel2 H.out HV.out _ ?_).mono ?_); (first | assumption | exact Below.drew ‹_›); rintro e wx ⟨rfl, bx⟩)
    go_wp2_with fail
    refine hK.out _ _ ?_ (fun hHeld => ?_)
    · first | assumption | exact Below.drew ‹_›
    clear hK K
    (try simp only [Act.put, List.setIfInBounds_toArray, List.set_cons_zero, List.set_cons_succ])
    refine wpAnyH_take (i := 24) (oi := (Go.Oper.mk (some 104) (Go.Op.pick (Go.Operand.tmp 102) (Go.Operand.tmp 103) (Go.Operand.const (Go.Value.bool false))) 4 _ #[Go.Edge.mk 22 Go.Ground.data, Go.Edge.mk 23 Go.Ground.data] none)) (v := ?_) rfl (by kernel_rfl) (by kernel_rfl) (by kernel_rfl) (fun _ _ _ h => h) (Or.inl ⟨by rfl, ?_⟩) hHeld ?_
    rotate_left
    · intro w hSw; (try dsimp only at hSw); go_simp; (try with_reducible rfl)
    simp only [Act.put, List.setIfInBounds_toArray, List.set_cons_zero, List.set_cons_succ]
    refine wpAnyH_take (i := 25) (oi := (Go.Oper.mk (some 6) (Go.Op.assign (Go.Operand.tmp 104)) 4 _ #[Go.Edge.mk 24 Go.Ground.data, Go.Edge.mk 23 Go.Ground.chain, Go.Edge.mk 0 Go.Ground.phase, Go.Edge.mk 1 Go.Ground.phase, Go.Edge.mk 2 Go.Ground.phase, Go.Edge.mk 3 Go.Ground.phase, Go.Edge.mk 4 Go.Ground.phase, Go.Edge.mk 5 Go.Ground.phase, Go.Edge.mk 6 Go.Ground.phase, Go.Edge.mk 7 Go.Ground.phase, Go.Edge.mk 8 Go.Ground.phase, Go.Edge.mk 9 Go.Ground.phase, Go.Edge.mk 10 Go.Ground.phase, Go.Edge.mk 11 Go.Ground.phase, Go.Edge.mk 12 Go.Ground.phase, Go.Edge.mk 13 Go.Ground.phase, Go.Edge.mk 14 Go.Ground.phase, Go.Edge.mk 15 Go.Ground.phase, Go.Edge.mk 16 Go.Ground.phase, Go.Edge.mk 17 Go.Ground.phase, Go.Edge.mk 18 Go.Ground.phase, Go.Edge.mk 19 Go.Ground.phase, Go.Edge.mk 20 Go.Ground.phase, Go.Edge.mk 21 Go.Ground.phase, Go.Edge.mk 22 Go.Ground.phase, Go.Edge.mk 23 Go.Ground.phase, Go.Edge.mk 24 Go.Ground.phase] none)) (v := ?_) rfl (by kernel_rfl) (by kernel_rfl) (by kernel_rfl) (fun _ _ _ h => h) (Or.inl ⟨by rfl, ?_⟩) hHeld ?_
    rotate_left
    · intro w hSw; (try dsimp only at hSw); go_simp; (try with_reducible rfl)
    simp only [Act.put, List.setIfInBounds_toArray, List.set_cons_zero, List.set_cons_succ]
    refine wpAnyH_done (by kernel_rfl) ?_ _
    go_wp2
    go_ret
    exact ⟨rfl, bx⟩
  · have d1 : decide ((s.size : Int) ≤ (m : Int)) = false := decide_eq_false (by omega)
    have e7 : u.extract m u.size = s.extract m s.size := by rw [← HM.out]; exact E6.out (by have := HM.out; omega)
    have j1 : (0 : Int) ≤ (m : Int) := by omega
    have j2 : (m : Int) ≤ (u.size : Int) := by omega
    have j3 : (m : Int) ≤ (s.size : Int) := by omega
    go_wp2_with fail
    refine wp_region_held_drew (S := (fun w' => Below w.heap.size w w')) (by kernel_rfl) ?_ (fun hHeld => ?_)
    · first | assumption | exact Below.drew ‹_›
    refine wpAnyH_take (i := 0) (oi := (Go.Oper.mk (some 80) (Go.Op.move (Go.Operand.tmp 1)) 3 _ #[] none)) (v := ?_) rfl (by kernel_rfl) (by kernel_rfl) (by kernel_rfl) (fun _ _ _ h => h) (Or.inl ⟨by rfl, ?_⟩) hHeld ?_
    rotate_left
    · intro w hSw; (try dsimp only at hSw); go_simp; (try with_reducible rfl)
    simp only [Act.put, List.setIfInBounds_toArray, List.set_cons_zero, List.set_cons_succ]
    refine wpAnyH_take (i := 1) (oi := (Go.Oper.mk (some 81) (Go.Op.move (Go.Operand.tmp 2)) 9 _ #[] none)) (v := ?_) rfl (by kernel_rfl) (by kernel_rfl) (by kernel_rfl) (fun _ _ _ h => h) (Or.inl ⟨by rfl, ?_⟩) hHeld ?_
    rotate_left
    · intro w hSw; (try dsimp only at hSw); go_simp; (try with_reducible rfl)
    simp only [Act.put, List.setIfInBounds_toArray, List.set_cons_zero, List.set_cons_succ]
    refine wpAnyH_take (i := 2) (oi := (Go.Oper.mk (some 82) (Go.Op.call (Go.Call.mk (Go.Callee.builtin Go.Builtin.len) #[Go.Operand.tmp 81] #[9])) 3 _ #[Go.Edge.mk 1 Go.Ground.data] none)) (v := ?_) rfl (by kernel_rfl) (by kernel_rfl) (by kernel_rfl) (fun _ _ _ h => h) (Or.inl ⟨by rfl, ?_⟩) hHeld ?_
    rotate_left
    · intro w hSw; (try dsimp only at hSw); go_simp; (try with_reducible rfl)
    simp only [Act.put, List.setIfInBounds_toArray, List.set_cons_zero, List.set_cons_succ]
    refine wpAnyH_take (i := 3) (oi := (Go.Oper.mk (some 83) (Go.Op.binOp Go.BinOp.add 3 (Go.Operand.tmp 80) (Go.Operand.tmp 82) 3) 3 _ #[Go.Edge.mk 0 Go.Ground.data, Go.Edge.mk 2 Go.Ground.data] none)) (v := ?_) rfl (by kernel_rfl) (by kernel_rfl) (by kernel_rfl) (fun _ _ _ h => h) (Or.inl ⟨by rfl, ?_⟩) hHeld ?_
    rotate_left
    · intro w hSw; (try dsimp only at hSw); go_simp; (try with_reducible rfl)
    simp only [Act.put, List.setIfInBounds_toArray, List.set_cons_zero, List.set_cons_succ]
    refine wpAnyH_take (i := 4) (oi := (Go.Oper.mk (some 84) (Go.Op.move (Go.Operand.tmp 0)) 9 _ #[] none)) (v := ?_) rfl (by kernel_rfl) (by kernel_rfl) (by kernel_rfl) (fun _ _ _ h => h) (Or.inl ⟨by rfl, ?_⟩) hHeld ?_
    rotate_left
    · intro w hSw; (try dsimp only at hSw); go_simp; (try with_reducible rfl)
    simp only [Act.put, List.setIfInBounds_toArray, List.set_cons_zero, List.set_cons_succ]
    refine wpAnyH_take (i := 5) (oi := (Go.Oper.mk (some 85) (Go.Op.call (Go.Call.mk (Go.Callee.builtin Go.Builtin.len) #[Go.Operand.tmp 84] #[9])) 3 _ #[Go.Edge.mk 4 Go.Ground.data] none)) (v := ?_) rfl (by kernel_rfl) (by kernel_rfl) (by kernel_rfl) (fun _ _ _ h => h) (Or.inl ⟨by rfl, ?_⟩) hHeld ?_
    rotate_left
    · intro w hSw; (try dsimp only at hSw); go_simp; (try with_reducible rfl)
    simp only [Act.put, List.setIfInBounds_toArray, List.set_cons_zero, List.set_cons_succ]
    refine wpAnyH_take (i := 6) (oi := (Go.Oper.mk (some 86) (Go.Op.binOp Go.BinOp.geq 3 (Go.Operand.tmp 83) (Go.Operand.tmp 85) 3) 4 _ #[Go.Edge.mk 3 Go.Ground.data, Go.Edge.mk 5 Go.Ground.data] none)) (v := ?_) rfl (by kernel_rfl) (by kernel_rfl) (by kernel_rfl) (fun _ _ _ h => h) (Or.inl ⟨by rfl, ?_⟩) hHeld ?_
    rotate_left
    · intro w hSw; (try dsimp only at hSw); go_simp; (try with_reducible rfl)
    simp only [Act.put, List.setIfInBounds_toArray, List.set_cons_zero, List.set_cons_succ]
    refine wpAnyH_take (i := 7) (oi := (Go.Oper.mk (some 87) (Go.Op.move (Go.Operand.tmp 86)) 4 _ #[Go.Edge.mk 6 Go.Ground.data] none)) (v := ?_) rfl (by kernel_rfl) (by kernel_rfl) (by kernel_rfl) (fun _ _ _ h => h) (Or.inl ⟨by rfl, ?_⟩) hHeld ?_
    rotate_left
    · intro w hSw; (try dsimp only at hSw); go_simp; (try with_reducible rfl)
    simp only [Act.put, List.setIfInBounds_toArray, List.set_cons_zero, List.set_cons_succ]
    refine wpAnyH_take (i := 8) (oi := (Go.Oper.mk (some 88) (Go.Op.move (Go.Operand.tmp 7)) 9 _ #[Go.Edge.mk 7 Go.Ground.guard] (some (7, false)))) (v := ?_) rfl (by kernel_rfl) (by kernel_rfl) (by kernel_rfl) (fun _ _ _ h => h) (Or.inl ⟨by rfl, ?_⟩) hHeld ?_
    rotate_left
    · intro w hSw; (try dsimp only at hSw); go_simp; (try with_reducible rfl)
    simp only [Act.put, List.setIfInBounds_toArray, List.set_cons_zero, List.set_cons_succ]
    refine wpAnyH_take (i := 9) (oi := (Go.Oper.mk (some 89) (Go.Op.move (Go.Operand.tmp 1)) 3 _ #[Go.Edge.mk 7 Go.Ground.guard] (some (7, false)))) (v := ?_) rfl (by kernel_rfl) (by kernel_rfl) (by kernel_rfl) (fun _ _ _ h => h) (Or.inl ⟨by rfl, ?_⟩) hHeld ?_
    rotate_left
    · intro w hSw; (try dsimp only at hSw); go_simp; (try with_reducible rfl)
    simp only [Act.put, List.setIfInBounds_toArray, List.set_cons_zero, List.set_cons_succ]
    refine wpAnyH_take (i := 10) (oi := (Go.Oper.mk (some 90) (Go.Op.move (Go.Operand.tmp 2)) 9 _ #[Go.Edge.mk 7 Go.Ground.guard] (some (7, false)))) (v := ?_) rfl (by kernel_rfl) (by kernel_rfl) (by kernel_rfl) (fun _ _ _ h => h) (Or.inl ⟨by rfl, ?_⟩) hHeld ?_
    rotate_left
    · intro w hSw; (try dsimp only at hSw); go_simp; (try with_reducible rfl)
    simp only [Act.put, List.setIfInBounds_toArray, List.set_cons_zero, List.set_cons_succ]
    refine wpAnyH_take (i := 11) (oi := (Go.Oper.mk (some 91) (Go.Op.call (Go.Call.mk (Go.Callee.builtin Go.Builtin.len) #[Go.Operand.tmp 90] #[9])) 3 _ #[Go.Edge.mk 10 Go.Ground.data, Go.Edge.mk 7 Go.Ground.guard] (some (7, false)))) (v := ?_) rfl (by kernel_rfl) (by kernel_rfl) (by kernel_rfl) (fun _ _ _ h => h) (Or.inl ⟨by rfl, ?_⟩) hHeld ?_
    rotate_left
    · intro w hSw; (try dsimp only at hSw); go_simp; (try with_reducible rfl)
    simp only [Act.put, List.setIfInBounds_toArray, List.set_cons_zero, List.set_cons_succ]
    refine wpAnyH_take (i := 12) (oi := (Go.Oper.mk (some 92) (Go.Op.binOp Go.BinOp.add 3 (Go.Operand.tmp 89) (Go.Operand.tmp 91) 3) 3 _ #[Go.Edge.mk 9 Go.Ground.data, Go.Edge.mk 11 Go.Ground.data, Go.Edge.mk 7 Go.Ground.guard] (some (7, false)))) (v := ?_) rfl (by kernel_rfl) (by kernel_rfl) (by kernel_rfl) (fun _ _ _ h => h) (Or.inl ⟨by rfl, ?_⟩) hHeld ?_
    rotate_left
    · intro w hSw; (try dsimp only at hSw); go_simp; (try with_reducible rfl)
    simp only [Act.put, List.setIfInBounds_toArray, List.set_cons_zero, List.set_cons_succ]
    refine wpAnyH_take (i := 13) (oi := (Go.Oper.mk (some 93) (Go.Op.slice 9 (Go.Operand.tmp 88) (some (Go.Operand.tmp 92)) none none) 9 _ #[Go.Edge.mk 8 Go.Ground.data, Go.Edge.mk 12 Go.Ground.data, Go.Edge.mk 7 Go.Ground.guard] (some (7, false)))) (v := ?_) rfl (by kernel_rfl) (by kernel_rfl) (by kernel_rfl) (fun _ _ _ h => h) (Or.inl ⟨by rfl, ?_⟩) hHeld ?_
    rotate_left
    · intro w hSw; (try dsimp only at hSw); go_simp; (try with_reducible rfl)
    simp only [Act.put, List.setIfInBounds_toArray, List.set_cons_zero, List.set_cons_succ]
    refine wpAnyH_take (i := 14) (oi := (Go.Oper.mk (some 94) (Go.Op.move (Go.Operand.tmp 0)) 9 _ #[Go.Edge.mk 7 Go.Ground.guard] (some (7, false)))) (v := ?_) rfl (by kernel_rfl) (by kernel_rfl) (by kernel_rfl) (fun _ _ _ h => h) (Or.inl ⟨by rfl, ?_⟩) hHeld ?_
    rotate_left
    · intro w hSw; (try dsimp only at hSw); go_simp; (try with_reducible rfl)
    simp only [Act.put, List.setIfInBounds_toArray, List.set_cons_zero, List.set_cons_succ]
    refine wpAnyH_take (i := 15) (oi := (Go.Oper.mk (some 95) (Go.Op.move (Go.Operand.tmp 1)) 3 _ #[Go.Edge.mk 7 Go.Ground.guard] (some (7, false)))) (v := ?_) rfl (by kernel_rfl) (by kernel_rfl) (by kernel_rfl) (fun _ _ _ h => h) (Or.inl ⟨by rfl, ?_⟩) hHeld ?_
    rotate_left
    · intro w hSw; (try dsimp only at hSw); go_simp; (try with_reducible rfl)
    simp only [Act.put, List.setIfInBounds_toArray, List.set_cons_zero, List.set_cons_succ]
    refine wpAnyH_take (i := 16) (oi := (Go.Oper.mk (some 96) (Go.Op.move (Go.Operand.tmp 2)) 9 _ #[Go.Edge.mk 7 Go.Ground.guard] (some (7, false)))) (v := ?_) rfl (by kernel_rfl) (by kernel_rfl) (by kernel_rfl) (fun _ _ _ h => h) (Or.inl ⟨by rfl, ?_⟩) hHeld ?_
    rotate_left
    · intro w hSw; (try dsimp only at hSw); go_simp; (try with_reducible rfl)
    simp only [Act.put, List.setIfInBounds_toArray, List.set_cons_zero, List.set_cons_succ]
    refine wpAnyH_take (i := 17) (oi := (Go.Oper.mk (some 97) (Go.Op.call (Go.Call.mk (Go.Callee.builtin Go.Builtin.len) #[Go.Operand.tmp 96] #[9])) 3 _ #[Go.Edge.mk 16 Go.Ground.data, Go.Edge.mk 7 Go.Ground.guard] (some (7, false)))) (v := ?_) rfl (by kernel_rfl) (by kernel_rfl) (by kernel_rfl) (fun _ _ _ h => h) (Or.inl ⟨by rfl, ?_⟩) hHeld ?_
    rotate_left
    · intro w hSw; (try dsimp only at hSw); go_simp; (try with_reducible rfl)
    simp only [Act.put, List.setIfInBounds_toArray, List.set_cons_zero, List.set_cons_succ]
    refine wpAnyH_take (i := 18) (oi := (Go.Oper.mk (some 98) (Go.Op.binOp Go.BinOp.add 3 (Go.Operand.tmp 95) (Go.Operand.tmp 97) 3) 3 _ #[Go.Edge.mk 15 Go.Ground.data, Go.Edge.mk 17 Go.Ground.data, Go.Edge.mk 7 Go.Ground.guard] (some (7, false)))) (v := ?_) rfl (by kernel_rfl) (by kernel_rfl) (by kernel_rfl) (fun _ _ _ h => h) (Or.inl ⟨by rfl, ?_⟩) hHeld ?_
    rotate_left
    · intro w hSw; (try dsimp only at hSw); go_simp; (try with_reducible rfl)
    simp only [Act.put, List.setIfInBounds_toArray, List.set_cons_zero, List.set_cons_succ]
    refine wpAnyH_take (i := 19) (oi := (Go.Oper.mk (some 99) (Go.Op.slice 9 (Go.Operand.tmp 94) (some (Go.Operand.tmp 98)) none none) 9 _ #[Go.Edge.mk 14 Go.Ground.data, Go.Edge.mk 18 Go.Ground.data, Go.Edge.mk 7 Go.Ground.guard] (some (7, false)))) (v := ?_) rfl (by kernel_rfl) (by kernel_rfl) (by kernel_rfl) (fun _ _ _ h => h) (Or.inl ⟨by rfl, ?_⟩) hHeld ?_
    rotate_left
    · intro w hSw; (try dsimp only at hSw); go_simp; (try with_reducible rfl)
    simp only [Act.put, List.setIfInBounds_toArray, List.set_cons_zero, List.set_cons_succ]
    refine wpAnyH_take (i := 20) (oi := (Go.Oper.mk (some 100) (Go.Op.binOp Go.BinOp.eql 9 (Go.Operand.tmp 93) (Go.Operand.tmp 99) 9) 4 _ #[Go.Edge.mk 13 Go.Ground.data, Go.Edge.mk 19 Go.Ground.data, Go.Edge.mk 7 Go.Ground.guard] (some (7, false)))) (v := ?_) rfl (by kernel_rfl) (by kernel_rfl) (by kernel_rfl) (fun _ _ _ h => h) (Or.inl ⟨by rfl, ?_⟩) hHeld ?_
    rotate_left
    · intro w hSw; (try dsimp only at hSw); go_simp; (try with_reducible rfl)
    simp only [Act.put, List.setIfInBounds_toArray, List.set_cons_zero, List.set_cons_succ]
    refine wpAnyH_take (i := 21) (oi := (Go.Oper.mk (some 101) (Go.Op.pick (Go.Operand.tmp 87) (Go.Operand.const (Go.Value.bool true)) (Go.Operand.tmp 100)) 4 _ #[Go.Edge.mk 7 Go.Ground.data, Go.Edge.mk 20 Go.Ground.data] none)) (v := ?_) rfl (by kernel_rfl) (by kernel_rfl) (by kernel_rfl) (fun _ _ _ h => h) (Or.inl ⟨by rfl, ?_⟩) hHeld ?_
    rotate_left
    · intro w hSw; (try dsimp only at hSw); go_simp; (try with_reducible rfl)
    simp only [Act.put, List.setIfInBounds_toArray, List.set_cons_zero, List.set_cons_succ]
    refine wpAnyH_take (i := 22) (oi := (Go.Oper.mk (some 102) (Go.Op.move (Go.Operand.tmp 101)) 4 _ #[Go.Edge.mk 21 Go.Ground.data, Go.Edge.mk 7 Go.Ground.chain] none)) (v := ?_) rfl (by kernel_rfl) (by kernel_rfl) (by kernel_rfl) (fun _ _ _ h => h) (Or.inl ⟨by rfl, ?_⟩) hHeld ?_
    rotate_left
    · intro w hSw; (try dsimp only at hSw); go_simp; (try with_reducible rfl)
    simp only [Act.put, List.setIfInBounds_toArray, List.set_cons_zero, List.set_cons_succ]
    refine wpAnyH_ready (rs := [23]) (by kernel_rfl) (by simp) ?_
    refine AllReadyH.cons (o := (Go.Oper.mk (some 103) (Go.Op.call (Go.Call.mk (Go.Callee.value (Go.Operand.func 14)) #[] #[])) 4 _ #[Go.Edge.mk 22 Go.Ground.chain, Go.Edge.mk 22 Go.Ground.guard] (some (22, true)))) rfl (fun K hK => ?_) AllReadyH.nil
    go_simp
    first | (go_at_call 14; (with_reducible refine (sure_rel2 H.out HV.out _ ?_).mono ?_); (first | assumption | exact Below.drew ‹_›); rintro e wx ⟨rfl, bx⟩)
    go_wp2_with fail
    refine hK.out _ _ ?_ (fun hHeld => ?_)
    · first | assumption | exact Below.drew ‹_›
    clear hK K
    (try simp only [Act.put, List.setIfInBounds_toArray, List.set_cons_zero, List.set_cons_succ])
    refine wpAnyH_take (i := 24) (oi := (Go.Oper.mk (some 104) (Go.Op.pick (Go.Operand.tmp 102) (Go.Operand.tmp 103) (Go.Operand.const (Go.Value.bool false))) 4 _ #[Go.Edge.mk 22 Go.Ground.data, Go.Edge.mk 23 Go.Ground.data] none)) (v := ?_) rfl (by kernel_rfl) (by kernel_rfl) (by kernel_rfl) (fun _ _ _ h => h) (Or.inl ⟨by rfl, ?_⟩) hHeld ?_
    rotate_left
    · intro w hSw; (try dsimp only at hSw); go_simp; (try with_reducible rfl)
    simp only [Act.put, List.setIfInBounds_toArray, List.set_cons_zero, List.set_cons_succ]
    refine wpAnyH_take (i := 25) (oi := (Go.Oper.mk (some 6) (Go.Op.assign (Go.Operand.tmp 104)) 4 _ #[Go.Edge.mk 24 Go.Ground.data, Go.Edge.mk 23 Go.Ground.chain, Go.Edge.mk 0 Go.Ground.phase, Go.Edge.mk 1 Go.Ground.phase, Go.Edge.mk 2 Go.Ground.phase, Go.Edge.mk 3 Go.Ground.phase, Go.Edge.mk 4 Go.Ground.phase, Go.Edge.mk 5 Go.Ground.phase, Go.Edge.mk 6 Go.Ground.phase, Go.Edge.mk 7 Go.Ground.phase, Go.Edge.mk 8 Go.Ground.phase, Go.Edge.mk 9 Go.Ground.phase, Go.Edge.mk 10 Go.Ground.phase, Go.Edge.mk 11 Go.Ground.phase, Go.Edge.mk 12 Go.Ground.phase, Go.Edge.mk 13 Go.Ground.phase, Go.Edge.mk 14 Go.Ground.phase, Go.Edge.mk 15 Go.Ground.phase, Go.Edge.mk 16 Go.Ground.phase, Go.Edge.mk 17 Go.Ground.phase, Go.Edge.mk 18 Go.Ground.phase, Go.Edge.mk 19 Go.Ground.phase, Go.Edge.mk 20 Go.Ground.phase, Go.Edge.mk 21 Go.Ground.phase, Go.Edge.mk 22 Go.Ground.phase, Go.Edge.mk 23 Go.Ground.phase, Go.Edge.mk 24 Go.Ground.phase] none)) (v := ?_) rfl (by kernel_rfl) (by kernel_rfl) (by kernel_rfl) (fun _ _ _ h => h) (Or.inl ⟨by rfl, ?_⟩) hHeld ?_
    rotate_left
    · intro w hSw; (try dsimp only at hSw); go_simp; (try with_reducible rfl)
    simp only [Act.put, List.setIfInBounds_toArray, List.set_cons_zero, List.set_cons_succ]
    refine wpAnyH_done (by kernel_rfl) ?_ _
    go_wp2
    go_ret
    exact ⟨rfl, bx⟩
theorem blobLaid_walk (s : ByteArray) (hs : s.size ≤ 140737488351232) (a : Int) (wa : (Lit.int .i64 a).wf = true) (t : ByteArray) (ht : t.size ≤ 140737488351232) (w : World) (h : Pows w) (hv : Sents w) :
    Calls Tryd.prog 10 #[.string s, .int .i64 a, .string t] w fun e w' => e = .returned (.bool true) ∧ Below w.heap.size w w' := by
  by_cases hbig : 65536 < t.size ∨ 65536 < s.size ∨ t.size = 0
  · exact laid_big s hs a t ht hbig w h hv
  · exact laid_small s (by omega) a t (by omega) (by omega) w h hv
end Go.Proofs.YtgdebcpnihibjaaDoor
