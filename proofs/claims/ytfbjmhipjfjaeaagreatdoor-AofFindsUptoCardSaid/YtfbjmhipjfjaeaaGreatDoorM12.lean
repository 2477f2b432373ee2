/- The walks of Decode: the program's, a group that is whole. -/
import Derived.Test.YtfbjmhipjfjaeaaGreatDoorM09
namespace Go.Proofs.YtfbjmhipjfjaeaaGreatDoor
open Go.ChangeShapes Go.WideShapes Go.ChangeAt Go.RowKit
set_option linter.unusedVariables false

set_option maxHeartbeats 4000000 in
theorem dec_good (s : ByteArray) (n m : Nat) (w : World) (hs : s.size ≤ maxLen) (h : 20 ≤ s.size) (hh : ((sumS (s.extract 0 16)).toList == (s.extract 16 20).toList) = true)
    (hn : unfixN (s.extract 0 8) = n) (hm : unfixN (s.extract 8 16) = m) (hz : ((m : Int) == 0) = false) (hz2 : n ≤ 1073741824)
    (h5 : 25 + n ≤ s.size) (hb : ((sumS (s.extract 8 16 ++ s.extract 20 (20 + n))).toList == (s.extract (20 + n) (20 + n + 4)).toList) = true) (hl : ∀ h : 20 + n + 4 < s.size, ((((s[20 + n + 4]'h).toNat : Nat) : Int) != 10) = false) :
    Calls Tryz.prog 86 #[.string s] w fun e w' => e = .returned (gotV ⟨m, (s.extract 20 (20 + n)).data.toList, 25 + n, 0⟩) ∧ Below w.heap.size w w' := by
  have h16 : (16 : Int) ≤ (s.size : Int) := by omega
  have h20 : (20 : Int) ≤ (s.size : Int) := by omega
  have h8 : (8 : Int) ≤ (s.size : Int) := by omega
  have m1 : (s.extract 0 16).size ≤ maxLen := by rw [ByteArray.size_extract]; unfold maxLen; omega
  have m5 : (s.extract 16 20).size ≤ maxLen := by rw [ByteArray.size_extract]; unfold maxLen; omega
  have cl := crcS_lt (s.extract 0 16)
  have v1 : IntKind.u64.wrap ((crcS (s.extract 0 16) : Nat) : Int) = (crcS (s.extract 0 16) : Nat) := wrap_u64_of (by omega) (by omega)
  have m2 : (s.extract 0 8).size ≤ maxLen := by rw [ByteArray.size_extract]; unfold maxLen; omega
  have m3 : (s.extract 8 16).size ≤ maxLen := by rw [ByteArray.size_extract]; unfold maxLen; omega
  have Hl := Lib.hid hl
  clear hl
  unfold maxLen at hs
  go_enter Tryz.func86, Tryz.ntmps86
  go_wp2_with fail
  obtain ⟨wb, hwb, hw, hlt, k0, k1, f0, f1⟩ := box2 w (.int .u64 0) (.string ⟨#[]⟩) 44
  rw [hwb]
  have Hwb := Lib.hid hwb
  clear hwb
  go_region_held3 (fun w' => Below wb.heap.size wb w') (first | assumption | exact Below.refl _ _ | exact (Below.refl _ _).drew | exact Below.drew ‹_›)
    (first
    | (go_at_call 78; (with_reducible refine (frSum (w0 := wb) _ ?_ ?_).mono ?_); (exact m1); (first | assumption | exact (Below.refl _ _).drew | exact Below.drew ‹_›); rintro e wx ⟨rfl, bx⟩))
  go_wp2_with fail
  go_region_held3 (fun w' => Below wb.heap.size wb w') (first | assumption | exact Below.refl _ _ | exact (Below.refl _ _).drew | exact Below.drew ‹_›)
    (first
    | (go_at_call 85; (with_reducible refine (frUnfix (w0 := wb) _ ?_ ?_).mono ?_); (first | exact m2 | exact m3); (first | assumption | exact Below.drew ‹_›); rintro e wx ⟨rfl, bx⟩))
  clear m1 m2 m3 m5 cl v1 hh
  have h5' : (20 : Int) + (n : Int) + 5 ≤ (s.size : Int) := by omega
  go_wp2_with fail
  have q1 : (20 : Int) + (n : Int) + 4 ≤ (s.size : Int) := by omega
  have q2 : IntKind.i64.wrap (20 + (n : Int) + 4) = 20 + (n : Int) + 4 := IntWalk.i64_in _ (by omega)
  have q3 : (0 : Int) ≤ 20 + (n : Int) := by omega
  have q10 : (0 : Int) ≤ 20 + (n : Int) + 4 := by omega
  have q4 : (20 : Int) + (n : Int) ≤ 20 + (n : Int) + 4 := by omega
  have q5 : (20 + (n : Int) + 4).toNat = 20 + n + 4 := by omega
  have q6 : (20 + (n : Int)).toNat = 20 + n := by omega
  have q7 : (20 : Int) + (n : Int) + 4 < (s.size : Int) := by omega
  have q8 : 20 + n + 4 < s.size := by omega
  have q9 : IntKind.i64.wrap (20 + (n : Int) + 5) = 20 + (n : Int) + 5 := IntWalk.i64_in _ (by omega)
  have q11 : (20 : Int) ≤ 20 + (n : Int) := by omega
  have q12 : (20 : Int) + (n : Int) ≤ (s.size : Int) := by omega
  have c4 := fun W => run_string_add_sum (P := Tryz.prog) W (s.extract 8 16) (s.extract 20 (20 + n)) (by rw [ByteArray.size_extract, ByteArray.size_extract]; omega)
  have m4 : (s.extract 8 16 ++ s.extract 20 (20 + n)).size ≤ maxLen := by rw [ByteArray.size_append, ByteArray.size_extract, ByteArray.size_extract]; unfold maxLen; omega
  have m6 : (s.extract (20 + n) (20 + n + 4)).size ≤ maxLen := by rw [ByteArray.size_extract]; unfold maxLen; omega
  have cl4 := crcS_lt (s.extract 8 16 ++ s.extract 20 (20 + n))
  have v4 : IntKind.u64.wrap ((crcS (s.extract 8 16 ++ s.extract 20 (20 + n)) : Nat) : Int) = (crcS (s.extract 8 16 ++ s.extract 20 (20 + n)) : Nat) := wrap_u64_of (by omega) (by omega)
  have hl' := Hl.out q8
  clear Hl
  refine wp_region_held_drew (S := (fun w' => Below wb.heap.size wb w')) (by kernel_rfl) ?_ (fun hHeld => ?_)
  · first | assumption | exact Below.drew ‹_›
  refine wpAnyH_take (i := 0) (oi := (Go.Oper.mk (some 45) (Go.Op.move (Go.Operand.tmp 0)) 9 _ #[] none)) (v := ?_) rfl (by kernel_rfl) (by kernel_rfl) (by kernel_rfl) (fun _ _ _ h => h) (Or.inl ⟨by rfl, ?_⟩) hHeld ?_
  rotate_left
  · intro w hSw; (try dsimp only at hSw); go_simp; (try with_reducible rfl)
  simp only [Act.put, List.setIfInBounds_toArray, List.set_cons_zero, List.set_cons_succ]
  refine wpAnyH_take (i := 1) (oi := (Go.Oper.mk (some 46) (Go.Op.slice 9 (Go.Operand.tmp 45) (some (Go.Operand.const (Go.Value.int Go.IntKind.i64 8))) (some (Go.Operand.const (Go.Value.int Go.IntKind.i64 16))) none) 9 _ #[Go.Edge.mk 0 Go.Ground.data] none)) (v := ?_) rfl (by kernel_rfl) (by kernel_rfl) (by kernel_rfl) (fun _ _ _ h => h) (Or.inl ⟨by rfl, ?_⟩) hHeld ?_
  rotate_left
  · intro w hSw; (try dsimp only at hSw); go_simp; (try with_reducible rfl)
  simp only [Act.put, List.setIfInBounds_toArray, List.set_cons_zero, List.set_cons_succ]
  refine wpAnyH_take (i := 2) (oi := (Go.Oper.mk (some 47) (Go.Op.move (Go.Operand.tmp 8)) 9 _ #[] none)) (v := ?_) rfl (by kernel_rfl) (by kernel_rfl) (by kernel_rfl) (fun _ _ _ h => h) (Or.inl ⟨by rfl, ?_⟩) hHeld ?_
  rotate_left
  · intro w hSw; (try dsimp only at hSw); go_simp; (try with_reducible rfl)
  simp only [Act.put, List.setIfInBounds_toArray, List.set_cons_zero, List.set_cons_succ]
  refine wpAnyH_take (i := 3) (oi := (Go.Oper.mk (some 48) (Go.Op.binOp Go.BinOp.add 9 (Go.Operand.tmp 46) (Go.Operand.tmp 47) 9) 9 _ #[Go.Edge.mk 1 Go.Ground.data, Go.Edge.mk 2 Go.Ground.data] none)) (v := ?_) rfl (by kernel_rfl) (by kernel_rfl) (by kernel_rfl) (fun _ _ _ h => h) (Or.inl ⟨by rfl, ?_⟩) hHeld ?_
  rotate_left
  · intro w hSw; (try dsimp only at hSw); go_simp; (try with_reducible rfl)
  simp only [Act.put, List.setIfInBounds_toArray, List.set_cons_zero, List.set_cons_succ]
  refine wpAnyH_take (i := 5) (oi := (Go.Oper.mk (some 50) (Go.Op.move (Go.Operand.tmp 0)) 9 _ #[] none)) (v := ?_) rfl (by kernel_rfl) (by kernel_rfl) (by kernel_rfl) (fun _ _ _ h => h) (Or.inl ⟨by rfl, ?_⟩) hHeld ?_
  rotate_left
  · intro w hSw; (try dsimp only at hSw); go_simp; (try with_reducible rfl)
  simp only [Act.put, List.setIfInBounds_toArray, List.set_cons_zero, List.set_cons_succ]
  refine wpAnyH_take (i := 6) (oi := (Go.Oper.mk (some 51) (Go.Op.move (Go.Operand.tmp 7)) 3 _ #[] none)) (v := ?_) rfl (by kernel_rfl) (by kernel_rfl) (by kernel_rfl) (fun _ _ _ h => h) (Or.inl ⟨by rfl, ?_⟩) hHeld ?_
  rotate_left
  · intro w hSw; (try dsimp only at hSw); go_simp; (try with_reducible rfl)
  simp only [Act.put, List.setIfInBounds_toArray, List.set_cons_zero, List.set_cons_succ]
  refine wpAnyH_take (i := 7) (oi := (Go.Oper.mk (some 52) (Go.Op.move (Go.Operand.tmp 7)) 3 _ #[] none)) (v := ?_) rfl (by kernel_rfl) (by kernel_rfl) (by kernel_rfl) (fun _ _ _ h => h) (Or.inl ⟨by rfl, ?_⟩) hHeld ?_
  rotate_left
  · intro w hSw; (try dsimp only at hSw); go_simp; (try with_reducible rfl)
  simp only [Act.put, List.setIfInBounds_toArray, List.set_cons_zero, List.set_cons_succ]
  refine wpAnyH_take (i := 8) (oi := (Go.Oper.mk (some 53) (Go.Op.binOp Go.BinOp.add 3 (Go.Operand.tmp 52) (Go.Operand.const (Go.Value.int Go.IntKind.i64 4)) 3) 3 _ #[Go.Edge.mk 7 Go.Ground.data] none)) (v := ?_) rfl (by kernel_rfl) (by kernel_rfl) (by kernel_rfl) (fun _ _ _ h => h) (Or.inl ⟨by rfl, ?_⟩) hHeld ?_
  rotate_left
  · intro w hSw; (try dsimp only at hSw); go_simp; (try with_reducible rfl)
  simp only [Act.put, List.setIfInBounds_toArray, List.set_cons_zero, List.set_cons_succ]
  refine wpAnyH_take (i := 9) (oi := (Go.Oper.mk (some 54) (Go.Op.slice 9 (Go.Operand.tmp 50) (some (Go.Operand.tmp 51)) (some (Go.Operand.tmp 53)) none) 9 _ #[Go.Edge.mk 5 Go.Ground.data, Go.Edge.mk 6 Go.Ground.data, Go.Edge.mk 8 Go.Ground.data] none)) (v := ?_) rfl (by kernel_rfl) (by kernel_rfl) (by kernel_rfl) (fun _ _ _ h => h) (Or.inl ⟨by rfl, ?_⟩) hHeld ?_
  rotate_left
  · intro w hSw; (try dsimp only at hSw); go_simp; (try with_reducible rfl)
  simp only [Act.put, List.setIfInBounds_toArray, List.set_cons_zero, List.set_cons_succ]
  refine wpAnyH_ready (rs := [4]) (by kernel_rfl) (by simp) ?_
  refine AllReadyH.cons (o := (Go.Oper.mk (some 49) (Go.Op.call (Go.Call.mk (Go.Callee.value (Go.Operand.func 78)) #[Go.Operand.tmp 48] #[9])) 9 _ #[Go.Edge.mk 3 Go.Ground.data] none)) rfl (fun K hK => ?_) AllReadyH.nil
  go_simp
  first | (go_at_call 78; (with_reducible refine (frSum (w0 := wb) _ ?_ ?_).mono ?_); (exact m4); (first | assumption | exact (Below.refl _ _).drew | exact Below.drew ‹_›); rintro e wx ⟨rfl, bx⟩)
  go_wp2_with fail
  refine hK.out _ _ ?_ (fun hHeld => ?_)
  · first | assumption | exact Below.drew ‹_›
  clear hK K
  (try simp only [Act.put, List.setIfInBounds_toArray, List.set_cons_zero, List.set_cons_succ])
  refine wpAnyH_take (i := 10) (oi := (Go.Oper.mk (some 55) (Go.Op.binOp Go.BinOp.neq 9 (Go.Operand.tmp 49) (Go.Operand.tmp 54) 9) 4 _ #[Go.Edge.mk 4 Go.Ground.data, Go.Edge.mk 9 Go.Ground.data] none)) (v := ?_) rfl (by kernel_rfl) (by kernel_rfl) (by kernel_rfl) (fun _ _ _ h => h) (Or.inl ⟨by rfl, ?_⟩) hHeld ?_
  rotate_left
  · intro w hSw; (try dsimp only at hSw); go_simp; (try with_reducible rfl)
  simp only [Act.put, List.setIfInBounds_toArray, List.set_cons_zero, List.set_cons_succ]
  refine wpAnyH_take (i := 11) (oi := (Go.Oper.mk (some 56) (Go.Op.move (Go.Operand.tmp 55)) 4 _ #[Go.Edge.mk 10 Go.Ground.data, Go.Edge.mk 4 Go.Ground.chain] none)) (v := ?_) rfl (by kernel_rfl) (by kernel_rfl) (by kernel_rfl) (fun _ _ _ h => h) (Or.inl ⟨by rfl, ?_⟩) hHeld ?_
  rotate_left
  · intro w hSw; (try dsimp only at hSw); go_simp; (try with_reducible rfl)
  simp only [Act.put, List.setIfInBounds_toArray, List.set_cons_zero, List.set_cons_succ]
  refine wpAnyH_take (i := 12) (oi := (Go.Oper.mk (some 57) (Go.Op.move (Go.Operand.tmp 0)) 9 _ #[Go.Edge.mk 11 Go.Ground.guard] (some (11, false)))) (v := ?_) rfl (by kernel_rfl) (by kernel_rfl) (by kernel_rfl) (fun _ _ _ h => h) (Or.inl ⟨by rfl, ?_⟩) hHeld ?_
  rotate_left
  · intro w hSw; (try dsimp only at hSw); go_simp; (try with_reducible rfl)
  simp only [Act.put, List.setIfInBounds_toArray, List.set_cons_zero, List.set_cons_succ]
  refine wpAnyH_take (i := 13) (oi := (Go.Oper.mk (some 58) (Go.Op.move (Go.Operand.tmp 7)) 3 _ #[Go.Edge.mk 11 Go.Ground.guard] (some (11, false)))) (v := ?_) rfl (by kernel_rfl) (by kernel_rfl) (by kernel_rfl) (fun _ _ _ h => h) (Or.inl ⟨by rfl, ?_⟩) hHeld ?_
  rotate_left
  · intro w hSw; (try dsimp only at hSw); go_simp; (try with_reducible rfl)
  simp only [Act.put, List.setIfInBounds_toArray, List.set_cons_zero, List.set_cons_succ]
  refine wpAnyH_take (i := 14) (oi := (Go.Oper.mk (some 59) (Go.Op.binOp Go.BinOp.add 3 (Go.Operand.tmp 58) (Go.Operand.const (Go.Value.int Go.IntKind.i64 4)) 3) 3 _ #[Go.Edge.mk 13 Go.Ground.data, Go.Edge.mk 11 Go.Ground.guard] (some (11, false)))) (v := ?_) rfl (by kernel_rfl) (by kernel_rfl) (by kernel_rfl) (fun _ _ _ h => h) (Or.inl ⟨by rfl, ?_⟩) hHeld ?_
  rotate_left
  · intro w hSw; (try dsimp only at hSw); go_simp; (try with_reducible rfl)
  simp only [Act.put, List.setIfInBounds_toArray, List.set_cons_zero, List.set_cons_succ]
  refine wpAnyH_take (i := 15) (oi := (Go.Oper.mk (some 60) (Go.Op.index 9 (Go.Operand.tmp 57) (Go.Operand.tmp 59)) 5 _ #[Go.Edge.mk 12 Go.Ground.data, Go.Edge.mk 14 Go.Ground.data, Go.Edge.mk 11 Go.Ground.guard] (some (11, false)))) (v := ?_) rfl (by kernel_rfl) (by kernel_rfl) (by kernel_rfl) (fun _ _ _ h => h) (Or.inl ⟨by rfl, ?_⟩) hHeld ?_
  rotate_left
  · intro w hSw; (try dsimp only at hSw); go_simp; (try with_reducible rfl)
  simp only [Act.put, List.setIfInBounds_toArray, List.set_cons_zero, List.set_cons_succ]
  refine wpAnyH_take (i := 16) (oi := (Go.Oper.mk (some 61) (Go.Op.binOp Go.BinOp.neq 5 (Go.Operand.tmp 60) (Go.Operand.const (Go.Value.int Go.IntKind.u8 10)) 5) 4 _ #[Go.Edge.mk 15 Go.Ground.data, Go.Edge.mk 11 Go.Ground.guard] (some (11, false)))) (v := ?_) rfl (by kernel_rfl) (by kernel_rfl) (by kernel_rfl) (fun _ _ _ h => h) (Or.inl ⟨by rfl, ?_⟩) hHeld ?_
  rotate_left
  · intro w hSw; (try dsimp only at hSw); go_simp; (try with_reducible rfl)
  simp only [Act.put, List.setIfInBounds_toArray, List.set_cons_zero, List.set_cons_succ]
  refine wpAnyH_take (i := 17) (oi := (Go.Oper.mk (some 62) (Go.Op.pick (Go.Operand.tmp 56) (Go.Operand.const (Go.Value.bool true)) (Go.Operand.tmp 61)) 4 _ #[Go.Edge.mk 11 Go.Ground.data, Go.Edge.mk 16 Go.Ground.data] none)) (v := ?_) rfl (by kernel_rfl) (by kernel_rfl) (by kernel_rfl) (fun _ _ _ h => h) (Or.inl ⟨by rfl, ?_⟩) hHeld ?_
  rotate_left
  · intro w hSw; (try dsimp only at hSw); go_simp; (try with_reducible rfl)
  simp only [Act.put, List.setIfInBounds_toArray, List.set_cons_zero, List.set_cons_succ]
  refine wpAnyH_done (by kernel_rfl) ?_ _
  go_wp2
  refine bodyPost_ret (v := .tuple #[.agg #[.int .u64 m, .string (s.extract 20 (20 + n))], .int .i64 (20 + (n : Int) + 5), .int .i64 0]) (dec_end rfl rfl ?_ ?_) rfl ⟨congrArg Ending.returned (gotV_good s n m), ?_⟩
  · simp [go_sem, k0 _ bx]
  · simp [go_sem, k1 _ bx]
  · exact ((hw.trans (bx.mono hw.size)).setCell (Nat.le_refl _) _).setCell (Nat.le_refl _) _

end Go.Proofs.YtfbjmhipjfjaeaaGreatDoor
