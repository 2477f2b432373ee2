/- The reference's SetBit; both together. -/
import Derived.Test.YtgdebcpnihibjaaDoorBlob3
import Derived.Deep.QuietTactic
import Derived.BigQuiet
namespace Go.Proofs.YtgdebcpnihibjaaDoor
open Go.ChangeShapes Go.WideShapes Go.ChangeAt Go.RowKit
set_option linter.unusedVariables false

theorem refSet_bad (s : ByteArray) (a v : Int) (h : a < 0 ∨ 8388608 ≤ a) (w : World) :
    Calls Tryd.prog 20 #[.string s, .int .i64 a, .int .i64 v] w fun e w' => e = .returned (.tuple #[.string (str []), .int .i64 0, .int .i64 80]) ∧ w = w' := by
  by_cases h0 : a < 0
  · go_enter Tryd.func20, Tryd.ntmps20
    go_wp2
    go_ret3
    exact ⟨rfl, rfl⟩
  · have h3 : 8388608 ≤ a := by omega
    clear h
    go_enter Tryd.func20, Tryd.ntmps20
    go_wp2
    go_ret3
    exact ⟨rfl, rfl⟩
theorem refSet_not (s : ByteArray) (a v : Int) (h : 0 ≤ a) (h1 : a < 8388608) (hv0 : (v != 0) = true) (hv1 : (v != 1) = true) (w : World) :
    Calls Tryd.prog 20 #[.string s, .int .i64 a, .int .i64 v] w fun e w' => e = .returned (.tuple #[.string (str []), .int .i64 0, .int .i64 80]) ∧ w = w' := by
  go_enter Tryd.func20, Tryd.ntmps20
  go_wp2
  go_ret3
  exact ⟨rfl, rfl⟩
set_option maxRecDepth 100000 in
theorem refSet_ok (s : ByteArray) (a : Nat) (v : Int) (hs : s.size ≤ 140737488351232) (h1 : a < 8388608) (hv : v = 0 ∨ v = 1) (w : World) :
    Calls Tryd.prog 20 #[.string s, .int .i64 a, .int .i64 v] w fun e w' => e = .returned (.tuple #[.string (str (Pl.setL s.data.toList a v)), .int .i64 (Pl.bitL s.data.toList a), .int .i64 0]) ∧ Below w.heap.size w w' := by
  have hlc : ∀ W, Calls Tryd.prog 32 #[.string s, .int .i64 ((a : Int) / 8 + 1)] W (LongEnd s (a / 8 + 1) W) := fun W => longer_any s hs (a / 8 + 1) (by omega) W
  have g1 : decide ((a : Int) < 0) = false := decide_eq_false (by omega)
  have g2 : decide ((8388608 : Int) ≤ (a : Int)) = false := decide_eq_false (by omega)
  have HL := Lib.hid hlc
  clear hlc
  rcases hv with rfl | rfl
  · go_enter Tryd.func20, Tryd.ntmps20
    go_wp2_with fail
    ((with_reducible refine (HL.out _).mono ?_); rintro e w1 ⟨g, cap, rfl, hg, hr, hb⟩)
    obtain ⟨n, hn⟩ : ∃ n, max s.size (a / 8 + 1) = n := ⟨_, rfl⟩
    rw [hn] at hr
    rw [hn]
    have hm1 : s.size ≤ n := by omega
    have hm2 : a / 8 + 1 ≤ n := by omega
    have hc := BRow.cell hr (show a / 8 < n by omega)
    have hf := BRow.frozen hr (show a / 8 < n by omega)
    have hcv := fun k => ((setRow0 (a := a) hr).drewN k).string (P := Tryd.prog) 54 5 Tryd.underlying54 Tryd.underlying5 cap Tryd.underlying9
    simp only [set_row hn] at hcv
    clear hn
    go_wp2_with fail
    go_quiet ((refine Calls.quiet_of_same ((refbit_any s hs a (by omega) _).mono fun e w' ⟨h1, h2⟩ => ⟨h1, h2.symm⟩)))
    clear hcv
    go_wp2
    go_ret3
    exact ⟨rfl, below_drewN (Below.setCell (hb) hg _) _⟩
  · go_enter Tryd.func20, Tryd.ntmps20
    go_wp2_with fail
    ((with_reducible refine (HL.out _).mono ?_); rintro e w1 ⟨g, cap, rfl, hg, hr, hb⟩)
    obtain ⟨n, hn⟩ : ∃ n, max s.size (a / 8 + 1) = n := ⟨_, rfl⟩
    rw [hn] at hr
    rw [hn]
    have hm1 : s.size ≤ n := by omega
    have hm2 : a / 8 + 1 ≤ n := by omega
    have hc := BRow.cell hr (show a / 8 < n by omega)
    have hf := BRow.frozen hr (show a / 8 < n by omega)
    have hcv := fun k => ((setRow1 (a := a) hr).drewN k).string (P := Tryd.prog) 54 5 Tryd.underlying54 Tryd.underlying5 cap Tryd.underlying9
    simp only [set_row hn] at hcv
    clear hn
    go_wp2_with fail
    go_quiet ((refine Calls.quiet_of_same ((refbit_any s hs a (by omega) _).mono fun e w' ⟨h1, h2⟩ => ⟨h1, h2.symm⟩)))
    clear hcv
    go_wp2
    go_ret3
    exact ⟨rfl, below_drewN (Below.setCell (Below.setCell (hb) hg _) hg _) _⟩

/-- What SetBit gives. -/
def setOk (a v : Int) : Bool := decide ((0 ≤ a ∧ a < 8388608) ∧ (v = 0 ∨ v = 1))
def setS (s : ByteArray) (a v : Int) : ByteArray := if setOk a v then str (Pl.setL s.data.toList a.toNat v) else str []
def setV (s : ByteArray) (a v : Int) : Int := if setOk a v then (Pl.bitL s.data.toList a.toNat : Int) else 0
def setE (a v : Int) : Int := if setOk a v then 0 else 80
def SetEnd (s : ByteArray) (a v : Int) (w : World) (e : Ending) (w' : World) : Prop := e = .returned (.tuple #[.string (setS s a v), .int .i64 (setV s a v), .int .i64 (setE a v)]) ∧ Below w.heap.size w w'
theorem set_any (s : ByteArray) (hs : s.size ≤ 140737488351232) (a v : Int) (w : World) :
    Calls Tryd.prog 19 #[.string s, .int .i64 a, .int .i64 v] w (SetEnd s a v w) ∧ Calls Tryd.prog 20 #[.string s, .int .i64 a, .int .i64 v] w (SetEnd s a v w) := by
  by_cases h : (0 ≤ a ∧ a < 8388608) ∧ (v = 0 ∨ v = 1)
  · have e : setOk a v = true := decide_eq_true h
    obtain ⟨h, hv⟩ := h
    obtain ⟨k, rfl⟩ := Int.eq_ofNat_of_zero_le h.1
    have e1 : setS s k v = str (Pl.setL s.data.toList k v) := by unfold setS; rw [e, if_pos rfl, Int.toNat_natCast]
    have e2 : setV s k v = (Pl.bitL s.data.toList k : Int) := by unfold setV; rw [e, if_pos rfl, Int.toNat_natCast]
    have e3 : setE k v = 0 := by unfold setE; rw [e]; rfl
    unfold SetEnd
    rw [e1, e2, e3]
    exact ⟨set_ok s k v hs (by omega) hv w, refSet_ok s k v hs (by omega) hv w⟩
  · have e : setOk a v = false := decide_eq_false h
    have e1 : setS s a v = str [] := by unfold setS; rw [e]; rfl
    have e2 : setV s a v = 0 := by unfold setV; rw [e]; rfl
    have e3 : setE a v = 80 := by unfold setE; rw [e]; rfl
    unfold SetEnd
    rw [e1, e2, e3]
    by_cases h1 : a < 0 ∨ 8388608 ≤ a
    · exact ⟨(set_bad s a v h1 w).mono fun e w' ⟨h1, h2⟩ => ⟨h1, h2 ▸ Below.refl _ _⟩, (refSet_bad s a v h1 w).mono fun e w' ⟨h1, h2⟩ => ⟨h1, h2 ▸ Below.refl _ _⟩⟩
    · have hv0 : (v != 0) = true := by rw [bne_iff_ne]; omega
      have hv1 : (v != 1) = true := by rw [bne_iff_ne]; omega
      exact ⟨(set_not s a v (by omega) (by omega) hv0 hv1 w).mono fun e w' ⟨h1, h2⟩ => ⟨h1, h2 ▸ Below.refl _ _⟩, (refSet_not s a v (by omega) (by omega) hv0 hv1 w).mono fun e w' ⟨h1, h2⟩ => ⟨h1, h2 ▸ Below.refl _ _⟩⟩
end Go.Proofs.YtgdebcpnihibjaaDoor
