/- ParseHead, and the walk of FrameDecodes. -/
import Derived.Test.YtehggdflhjgkeaaFrame9
namespace Go.Proofs.Ytehggdflhjgkeaa
open Go.ChangeShapes Go.WideShapes Go.ChangeAt Go.RowKit
set_option linter.unusedVariables false

/-- What both tell of a head. -/
def phOk (s : ByteArray) : Prop := 16 ≤ s.size ∧ ((s.extract 0 8).toList == [67, 79, 86, 69, 78, 65, 78, 84]) = true ∧ unfixN (s.extract 8 16) ≠ 0
instance (s : ByteArray) : Decidable (phOk s) := by unfold phOk; infer_instance
def phN (s : ByteArray) : Nat := if phOk s then unfixN (s.extract 8 16) else 0
def phE (s : ByteArray) : Int := if phOk s then 0 else 254


set_option maxHeartbeats 1600000 in
theorem ph_any (s : ByteArray) (w : World) (hs : s.size ≤ maxLen) :
    Calls Try.prog 17 #[.string s] w fun e w' => e = .returned (.tuple #[.int .u64 (phN s), .int .i64 (phE s)]) ∧ Below w.heap.size w w' := by
  by_cases h16 : 16 ≤ s.size
  · have g16 : (16 : Int) ≤ (s.size : Int) := by omega
    have g8 : (8 : Int) ≤ (s.size : Int) := by omega
    have m3 : (s.extract 8 16).size ≤ maxLen := by rw [ByteArray.size_extract]; unfold maxLen; omega
    rcases hc : ((s.extract 0 8).toList == [67, 79, 86, 69, 78, 65, 78, 84]) with _ | _
    · have hno : ¬ phOk s := fun h => by have := h.2.1; rw [hc] at this; cases this
      rw [show phN s = 0 from if_neg hno, show phE s = 254 from if_neg hno]
      unfold maxLen at hs
      go_enter Try.func17, Try.ntmps17
      go_wp2
      go_ret2
      exact ⟨rfl, Below.refl _ _⟩
    · by_cases hz : unfixN (s.extract 8 16) = 0
      · have hno : ¬ phOk s := fun h => h.2.2 hz
        rw [show phN s = 0 from if_neg hno, show phE s = 254 from if_neg hno]
        have hz' : (((unfixN (s.extract 8 16) : Nat) : Int) == 0) = true := by rw [beq_iff_eq]; omega
        clear hz hno
        unfold maxLen at hs
        go_enter Try.func17, Try.ntmps17
        go_wp2_with fail
        refine (frUnfix _ m3 (Below.refl _ _)).mono ?_
        rintro e w1 ⟨rfl, b1⟩
        go_wp2
        go_ret2
        exact ⟨rfl, b1⟩
      · have hyes : phOk s := ⟨h16, hc, hz⟩
        rw [show phN s = unfixN (s.extract 8 16) from if_pos hyes, show phE s = 0 from if_pos hyes]
        have hz' : (((unfixN (s.extract 8 16) : Nat) : Int) == 0) = false := by rw [beq_eq_false_iff_ne]; omega
        clear hz hyes
        unfold maxLen at hs
        go_enter Try.func17, Try.ntmps17
        go_wp2_with fail
        refine (frUnfix _ m3 (Below.refl _ _)).mono ?_
        rintro e w1 ⟨rfl, b1⟩
        go_wp2
        go_ret2
        exact ⟨rfl, b1⟩
  · have hno : ¬ phOk s := fun h => h16 h.1
    rw [show phN s = 0 from if_neg hno, show phE s = 254 from if_neg hno]
    go_enter Try.func17, Try.ntmps17
    go_wp2
    go_ret2
    exact ⟨rfl, Below.refl _ _⟩


set_option maxHeartbeats 1600000 in
theorem refPh_any (s : ByteArray) (w : World) (hs : s.size ≤ maxLen) :
    Calls Try.prog 18 #[.string s] w fun e w' => e = .returned (.tuple #[.int .u64 (phN s), .int .i64 (phE s)]) ∧ Below w.heap.size w w' := by
  by_cases h16 : 16 ≤ s.size
  · have g16 : (16 : Int) ≤ (s.size : Int) := by omega
    have g8 : (8 : Int) ≤ (s.size : Int) := by omega
    have m3 : (s.extract 8 16).size ≤ maxLen := by rw [ByteArray.size_extract]; unfold maxLen; omega
    rcases hc : ((s.extract 0 8).toList == [67, 79, 86, 69, 78, 65, 78, 84]) with _ | _
    · have hno : ¬ phOk s := fun h => by have := h.2.1; rw [hc] at this; cases this
      rw [show phN s = 0 from if_neg hno, show phE s = 254 from if_neg hno]
      unfold maxLen at hs
      go_enter Try.func18, Try.ntmps18
      go_wp2
      go_ret2
      exact ⟨rfl, Below.refl _ _⟩
    · by_cases hz : unfixN (s.extract 8 16) = 0
      · have hno : ¬ phOk s := fun h => h.2.2 hz
        rw [show phN s = 0 from if_neg hno, show phE s = 254 from if_neg hno]
        have hz' : (((unfixN (s.extract 8 16) : Nat) : Int) == 0) = true := by rw [beq_iff_eq]; omega
        clear hz hno
        unfold maxLen at hs
        go_enter Try.func18, Try.ntmps18
        go_wp2_with fail
        refine (reUnfix _ m3 (Below.refl _ _)).mono ?_
        rintro e w1 ⟨rfl, b1⟩
        go_wp2
        go_ret2
        exact ⟨rfl, b1⟩
      · have hyes : phOk s := ⟨h16, hc, hz⟩
        rw [show phN s = unfixN (s.extract 8 16) from if_pos hyes, show phE s = 0 from if_pos hyes]
        have hz' : (((unfixN (s.extract 8 16) : Nat) : Int) == 0) = false := by rw [beq_eq_false_iff_ne]; omega
        clear hz hyes
        unfold maxLen at hs
        go_enter Try.func18, Try.ntmps18
        go_wp2_with fail
        refine (reUnfix _ m3 (Below.refl _ _)).mono ?_
        rintro e w1 ⟨rfl, b1⟩
        go_wp2_with fail
        refine (reUnfix _ m3 b1).mono ?_
        rintro e w2 ⟨rfl, b1⟩
        go_wp2
        go_ret2
        exact ⟨rfl, b1⟩
  · have hno : ¬ phOk s := fun h => h16 h.1
    rw [show phN s = 0 from if_neg hno, show phE s = 254 from if_neg hno]
    go_enter Try.func18, Try.ntmps18
    go_wp2
    go_ret2
    exact ⟨rfl, Below.refl _ _⟩


set_option maxHeartbeats 1600000 in
theorem frameDecodes_walk (a0 : ByteArray) (w0 : a0.size ≤ maxLen) (w : World) :
    Calls Try.prog 4 #[.string a0] w fun e w' => e = .returned (.bool true) ∧ Below w.heap.size w w' := by
  obtain ⟨G, hG⟩ : ∃ G, Pl.dec a0.data.toList = G := ⟨_, rfl⟩
  have HG := Lib.hid hG
  clear hG
  go_enter Try.func4, Try.ntmps4
  go_wp2_with fail
  refine (dec_any a0 _ w0).mono ?_
  rw [HG.out]
  rintro e w1 ⟨rfl, b1⟩
  unfold gotV
  go_wp2_with fail
  obtain ⟨wa, hwa, ha, hlta, i0, i1, _, _⟩ := box2 w1 (.int .u64 G.num) (.string (str G.body)) 24
  rw [hwa]
  have Hwa := Lib.hid hwa
  clear hwa
  refine (refDec_any a0 _ w0).mono ?_
  rw [HG.out]
  rintro e w2 ⟨rfl, b2⟩
  unfold gotV
  go_wp2_with fail
  obtain ⟨wb, hwb, hb, hltb, k0, k1, _, _⟩ := box2 w2 (.int .u64 G.num) (.string (str G.body)) 24
  rw [hwb]
  have Hwb := Lib.hid hwb
  clear hwb
  have hab : Below wa.heap.size wa wb := b2.trans (hb.mono b2.size)
  refine (ph_any a0 _ w0).mono ?_
  rintro e w3 ⟨rfl, b3⟩
  go_wp2_with fail
  refine (refPh_any a0 _ w0).mono ?_
  rintro e w4 ⟨rfl, b4⟩
  have b4 := b3.trans (b4.mono b3.size)
  have ha4 := hab.trans (b4.mono hab.size)
  go_wp2_with fail
  refine (awake_any _).mono ?_
  rintro e w5 ⟨rfl, b5⟩
  go_wp2
  go_ret
  have c1 := b1.trans (ha.mono b1.size)
  have c2 := c1.trans (ha4.mono c1.size)
  exact ⟨rfl, c2.trans (b5.mono c2.size)⟩

end Go.Proofs.Ytehggdflhjgkeaa
