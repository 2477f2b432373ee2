/- The walks of Decode: the program's, ahead of the body. -/
import Derived.Test.YtfbjmhipjfjaeaaGreatDoorM09
namespace Go.Proofs.YtfbjmhipjfjaeaaGreatDoor
open Go.ChangeShapes Go.WideShapes Go.ChangeAt Go.RowKit
set_option linter.unusedVariables false

theorem dec_short (s : ByteArray) (w : World) (h : s.size < 20) :
    Calls Tryz.prog 86 #[.string s] w fun e w' => e = .returned (gotV (.bad 251)) ∧ Below w.heap.size w w' := by
  go_enter Tryz.func86, Tryz.ntmps86
  go_wp2
  refine bodyPost_ret (v := gotV (.bad 251)) (dec_end rfl rfl ?_ ?_) rfl ⟨rfl, ?_⟩
  · exact World.cell?_alloc_mark _ _ _ _ _
  · exact World.cell?_alloc_mark _ _ _ _ _
  · exact (Below.refl _ _).alloc (Nat.le_refl _) _

set_option maxHeartbeats 4000000 in
theorem dec_head (s : ByteArray) (w : World) (hs : s.size ≤ maxLen) (h : 20 ≤ s.size) (hh : ((sumS (s.extract 0 16)).toList == (s.extract 16 20).toList) = false) :
    Calls Tryz.prog 86 #[.string s] w fun e w' => e = .returned (gotV (.bad 252)) ∧ Below w.heap.size w w' := by
  have h16 : (16 : Int) ≤ (s.size : Int) := by omega
  have h20 : (20 : Int) ≤ (s.size : Int) := by omega
  have h8 : (8 : Int) ≤ (s.size : Int) := by omega
  have m1 : (s.extract 0 16).size ≤ maxLen := by rw [ByteArray.size_extract]; unfold maxLen; omega
  have m5 : (s.extract 16 20).size ≤ maxLen := by rw [ByteArray.size_extract]; unfold maxLen; omega
  have cl := crcS_lt (s.extract 0 16)
  have v1 : IntKind.u64.wrap ((crcS (s.extract 0 16) : Nat) : Int) = (crcS (s.extract 0 16) : Nat) := wrap_u64_of (by omega) (by omega)
  unfold maxLen at hs
  go_enter Tryz.func86, Tryz.ntmps86
  go_wp2_with fail
  obtain ⟨wb, hwb, hw, hlt, k0, k1, f0, f1⟩ := box2 w (.int .u64 0) (.string ⟨#[]⟩) 44
  rw [hwb]
  have Hwb := Lib.hid hwb
  clear hwb
  go_region_held3 (fun w' => Below wb.heap.size wb w') (first | assumption | exact Below.refl _ _ | exact (Below.refl _ _).drew | exact Below.drew ‹_›)
    (first
    | (go_at_call 78; (with_reducible refine (frSum (w0 := wb) _ ?_ ?_).mono ?_); (exact m1); (first | assumption | exact (Below.refl _ _).drew | exact Below.drew ‹_›); rintro e wx ⟨rfl, bx⟩))
  go_wp2
  refine bodyPost_ret (v := gotV (.bad 252)) (dec_end rfl rfl ?_ ?_) rfl ⟨rfl, ?_⟩
  · (simp [go_sem, k0 _ bx]; rfl)
  · (simp [go_sem, k1 _ bx]; rfl)
  · exact ((hw.trans (bx.mono hw.size)).setCell (Nat.le_refl _) _).setCell (Nat.le_refl _) _

set_option maxHeartbeats 4000000 in
theorem dec_zero (s : ByteArray) (w : World) (hs : s.size ≤ maxLen) (h : 20 ≤ s.size) (hh : ((sumS (s.extract 0 16)).toList == (s.extract 16 20).toList) = true)
    (hz : (((unfixN (s.extract 8 16) : Nat) : Int) == 0) = true ∨ ((((unfixN (s.extract 8 16) : Nat) : Int) == 0) = false ∧ decide ((1073741824 : Int) < (unfixN (s.extract 0 8) : Nat)) = true)) :
    Calls Tryz.prog 86 #[.string s] w fun e w' => e = .returned (gotV (.bad 250)) ∧ Below w.heap.size w w' := by
  have h16 : (16 : Int) ≤ (s.size : Int) := by omega
  have h20 : (20 : Int) ≤ (s.size : Int) := by omega
  have h8 : (8 : Int) ≤ (s.size : Int) := by omega
  have m1 : (s.extract 0 16).size ≤ maxLen := by rw [ByteArray.size_extract]; unfold maxLen; omega
  have m5 : (s.extract 16 20).size ≤ maxLen := by rw [ByteArray.size_extract]; unfold maxLen; omega
  have cl := crcS_lt (s.extract 0 16)
  have v1 : IntKind.u64.wrap ((crcS (s.extract 0 16) : Nat) : Int) = (crcS (s.extract 0 16) : Nat) := wrap_u64_of (by omega) (by omega)
  have m2 : (s.extract 0 8).size ≤ maxLen := by rw [ByteArray.size_extract]; unfold maxLen; omega
  have m3 : (s.extract 8 16).size ≤ maxLen := by rw [ByteArray.size_extract]; unfold maxLen; omega
  unfold maxLen at hs
  go_enter Tryz.func86, Tryz.ntmps86
  go_wp2_with fail
  obtain ⟨wb, hwb, hw, hlt, k0, k1, f0, f1⟩ := box2 w (.int .u64 0) (.string ⟨#[]⟩) 44
  rw [hwb]
  have Hwb := Lib.hid hwb
  clear hwb
  go_region_held3 (fun w' => Below wb.heap.size wb w') (first | assumption | exact Below.refl _ _ | exact (Below.refl _ _).drew | exact Below.drew ‹_›)
    (first
    | (go_at_call 78; (with_reducible refine (frSum (w0 := wb) _ ?_ ?_).mono ?_); (exact m1); (first | assumption | exact (Below.refl _ _).drew | exact Below.drew ‹_›); rintro e wx ⟨rfl, bx⟩))
  go_wp2_with fail
  go_region_held3 (fun w' => Below wb.heap.size wb w') (first | assumption | exact Below.refl _ _ | exact (Below.refl _ _).drew | exact Below.drew ‹_›)
    (first
    | (go_at_call 85; (with_reducible refine (frUnfix (w0 := wb) _ ?_ ?_).mono ?_); (first | exact m2 | exact m3); (first | assumption | exact Below.drew ‹_›); rintro e wx ⟨rfl, bx⟩))
  rcases hz with hz | ⟨hz, hz2⟩
  all_goals
    go_wp2
    refine bodyPost_ret (v := gotV (.bad 250)) (dec_end rfl rfl ?_ ?_) rfl ⟨rfl, ?_⟩
    · (simp [go_sem, k0 _ bx]; rfl)
    · (simp [go_sem, k1 _ bx]; rfl)
    · exact ((hw.trans (bx.mono hw.size)).setCell (Nat.le_refl _) _).setCell (Nat.le_refl _) _

set_option maxHeartbeats 4000000 in
theorem dec_cut (s : ByteArray) (n m : Nat) (w : World) (hs : s.size ≤ maxLen) (h : 20 ≤ s.size) (hh : ((sumS (s.extract 0 16)).toList == (s.extract 16 20).toList) = true)
    (hn : unfixN (s.extract 0 8) = n) (hm : unfixN (s.extract 8 16) = m) (hz : ((m : Int) == 0) = false) (hz2 : n ≤ 1073741824)
    (h5 : s.size < 25 + n) :
    Calls Tryz.prog 86 #[.string s] w fun e w' => e = .returned (gotV (.bad 251)) ∧ Below w.heap.size w w' := by
  have h16 : (16 : Int) ≤ (s.size : Int) := by omega
  have h20 : (20 : Int) ≤ (s.size : Int) := by omega
  have h8 : (8 : Int) ≤ (s.size : Int) := by omega
  have m1 : (s.extract 0 16).size ≤ maxLen := by rw [ByteArray.size_extract]; unfold maxLen; omega
  have m5 : (s.extract 16 20).size ≤ maxLen := by rw [ByteArray.size_extract]; unfold maxLen; omega
  have cl := crcS_lt (s.extract 0 16)
  have v1 : IntKind.u64.wrap ((crcS (s.extract 0 16) : Nat) : Int) = (crcS (s.extract 0 16) : Nat) := wrap_u64_of (by omega) (by omega)
  have m2 : (s.extract 0 8).size ≤ maxLen := by rw [ByteArray.size_extract]; unfold maxLen; omega
  have m3 : (s.extract 8 16).size ≤ maxLen := by rw [ByteArray.size_extract]; unfold maxLen; omega
  have h5' : (s.size : Int) < 20 + (n : Int) + 5 := by omega
  unfold maxLen at hs
  go_enter Tryz.func86, Tryz.ntmps86
  go_wp2_with fail
  obtain ⟨wb, hwb, hw, hlt, k0, k1, f0, f1⟩ := box2 w (.int .u64 0) (.string ⟨#[]⟩) 44
  rw [hwb]
  have Hwb := Lib.hid hwb
  clear hwb
  go_region_held3 (fun w' => Below wb.heap.size wb w') (first | assumption | exact Below.refl _ _ | exact (Below.refl _ _).drew | exact Below.drew ‹_›)
    (first
    | (go_at_call 78; (with_reducible refine (frSum (w0 := wb) _ ?_ ?_).mono ?_); (exact m1); (first | assumption | exact (Below.refl _ _).drew | exact Below.drew ‹_›); rintro e wx ⟨rfl, bx⟩))
  go_wp2_with fail
  go_region_held3 (fun w' => Below wb.heap.size wb w') (first | assumption | exact Below.refl _ _ | exact (Below.refl _ _).drew | exact Below.drew ‹_›)
    (first
    | (go_at_call 85; (with_reducible refine (frUnfix (w0 := wb) _ ?_ ?_).mono ?_); (first | exact m2 | exact m3); (first | assumption | exact Below.drew ‹_›); rintro e wx ⟨rfl, bx⟩))
  go_wp2
  refine bodyPost_ret (v := gotV (.bad 251)) (dec_end rfl rfl ?_ ?_) rfl ⟨rfl, ?_⟩
  · (simp [go_sem, k0 _ bx]; rfl)
  · (simp [go_sem, k1 _ bx]; rfl)
  · exact ((hw.trans (bx.mono hw.size)).setCell (Nat.le_refl _) _).setCell (Nat.le_refl _) _

end Go.Proofs.YtfbjmhipjfjaeaaGreatDoor
