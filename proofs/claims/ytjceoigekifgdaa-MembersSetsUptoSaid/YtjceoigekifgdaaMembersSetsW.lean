/- The walk of MembersSets. -/
import Derived.Test.YtjceoigekifgdaaMem11
import Derived.Test.YtjceoigekifgdaaMembersAftersW
namespace Go.Proofs.Ytjceoigekifgdaa
open Go.ChangeShapes Go.WideShapes Go.ChangeAt Go.RowKit Go.Sort
set_option linter.unusedVariables false

set_option maxHeartbeats 1600000 in
set_option maxRecDepth 100000 in
theorem sets_up (v1 : Value) (l : List Tx) (mt : Tx) (hl : l.length ≤ 1048576) (w : World) (h1 : TRow w v1 l) :
    Calls Try.prog 6 #[v1, .string (str mt)] w fun e w' => e = .returned (.bool true) ∧ Below w.heap.size w w' := by
  obtain ⟨a1, c1, e1⟩ := h1.shape
  subst e1
  have H := Lib.hid h1
  clear h1
  have hrs : Hid (∀ r ∈ [l], r.length ≤ 4398046511000) := by
    show ∀ r ∈ [l], _
    intro r hr; simp at hr; subst hr; omega
  go_enter Try.func6, Try.ntmps6
  go_wp2_with fail
  refine (twins_any [l] _ hrs.out (by simp) _ (laid_one H.out _ rfl)).mono ?_
  rintro e w1 ⟨tv, rfl, t1, b1⟩
  obtain ⟨g, cp, g0, c0, rfl, hg, f0, r0⟩ := twins_one t1
  have hbw : Below w.heap.size w w1 := below_thru b1 ((Below.refl _ _).alloc (Nat.le_refl _) _)
  have M1 := Lib.hid (And.intro t1 (And.intro hbw r0))
  clear t1 b1 hbw r0
  go_wp2_with fail
  refine (mOf_any l _ (by omega) _ M1.out.2.2).mono ?_
  rintro e w2 ⟨x2, rfl, n2, b2⟩
  obtain ⟨o2, d2, rfl⟩ := n2.shape
  have M2 := Lib.hid (And.intro n2 b2)
  clear n2 b2
  have BW2 : Hid (Below w.heap.size w w2) := below_thru M2.out.2 M1.out.2.1
  go_wp2_with fail
  refine (refOf_any l _ (by omega) _ (H.out.kept BW2.out)).mono ?_
  rintro e w3 ⟨x3, rfl, n3, b3⟩
  obtain ⟨o3, d3, rfl⟩ := n3.shape
  have M3 := Lib.hid (And.intro n3 b3)
  clear n3 b3
  have BW3 : Hid (Below w.heap.size w w3) := below_thru M3.out.2 BW2.out
  have hal := Pl.ofS_length l
  have B13 : Hid (Below w1.heap.size w1 w3) := below_thru M3.out.2 M2.out.2
  have TT : Hid (TwinsAt (w.alloc (.cells #[.slice a1 l.length c1] 22)) w3 (.slice (some ⟨g, 0, none⟩) 1 cp) [l]) := (M1.out.1.kept M2.out.2).kept M3.out.2
  have k3 : ∀ w', Below w3.heap.size w3 w' → w'.cell? ⟨g, 0, none⟩ = some (.slice (some ⟨g0, 0, none⟩) l.length c0) := fun w' hb => ((below_thru hb B13.out).cell (p := ⟨g, 0, none⟩) hg).trans f0
  have R3 : Hid (∀ w', Below w3.heap.size w3 w' → TRow w' (.slice (some ⟨g0, 0, none⟩) l.length c0) l) := fun w' hb => M1.out.2.2.kept (below_thru hb B13.out)
  have HW : Hid (∀ w', Below w3.heap.size w3 w' → TRow w' (.slice a1 l.length c1) l) := fun w' hb => H.out.kept (below_thru hb BW3.out)
  have f3 := k3 w3 (Below.refl _ _)
  clear f0
  go_wp2_with fail
  refine (same_true (Pl.ofS l) _ _ (by omega) _ (M2.out.1.trow.kept M3.out.2) M3.out.1.fresh.trow).mono ?_
  rintro e w4 ⟨rfl, m4, rfl⟩
  have D4 : Hid (Below w3.heap.size w3 (w3.drewN m4)) := below_drewN (Below.refl _ _) m4
  obtain ⟨w4, h4⟩ : ∃ w4, w3.drewN m4 = w4 := ⟨_, rfl⟩
  rw [h4] at D4 ⊢
  clear h4
  have f4 := k3 w4 D4.out
  go_wp2_with fail
  refine (valid_any l _ (by omega) _ (R3.out _ D4.out)).mono ?_
  rintro e w5 ⟨rfl, m5, rfl⟩
  have D5 : Hid (Below w3.heap.size w3 (w4.drewN m5)) := below_drewN D4.out m5
  obtain ⟨w5, h5⟩ : ∃ w5, w4.drewN m5 = w5 := ⟨_, rfl⟩
  rw [h5] at D5 ⊢
  clear h5
  go_wp2_with fail
  refine (refValid_any l _ (by omega) _ (HW.out _ D5.out)).mono ?_
  rintro e w6 ⟨rfl, m6, rfl⟩
  have D6 : Hid (Below w3.heap.size w3 (w5.drewN m6)) := below_drewN D5.out m6
  obtain ⟨w6, h6⟩ : ∃ w6, w5.drewN m6 = w6 := ⟨_, rfl⟩
  rw [h6] at D6 ⊢
  clear h6
  have f6 := k3 w6 D6.out
  go_wp2_with fail
  refine (mHas_any l _ mt (by omega) _ (R3.out _ D6.out)).mono ?_
  rintro e w7 ⟨rfl, rfl⟩
  go_wp2_with fail
  refine (has_str l _ mt (by omega) _ (HW.out _ D6.out)).mono ?_
  rintro e w8 ⟨rfl, rfl⟩
  go_wp2_with fail
  refine (kept_any [l] _ _ hrs.out (by simp) _ _ ((TT.out.kept D6.out).kept ((Below.refl _ _).alloc (Nat.le_refl _) _)) (laid_one (HW.out _ D6.out) _ rfl)).mono ?_
  rintro e w9 ⟨rfl, m9, rfl⟩
  have B9 : Hid (∀ o, Below w.heap.size w ((World.alloc _ o).drewN m9)) := fun o => below_drewN (below_alloc (below_thru D6.out BW3.out) o) m9
  go_wp2_with fail
  refine (awake_any _).mono ?_
  rintro e w10 ⟨rfl, b10⟩
  have B10 := Lib.hid (below_thru b10 (B9.out _))
  clear b10
  go_wp2
  go_ret
  exact ⟨rfl, B10.out⟩
theorem membersSets_walk (v0 : Value) (bs0 : List ByteArray) (h0 : bulkS bs0 ≤ 1048576) (a1 : ByteArray) (s1 : a1.size ≤ maxLen) (w : World) (s0 : SRow w v0 bs0) :
    Calls Try.prog 6 #[v0, .string a1] w fun e w' => e = .returned (.bool true) ∧ Below w.heap.size w w' := by
  obtain ⟨l, hl, nl⟩ := texts_of s0 h0
  have := sets_up v0 l a1.data.toList nl w hl
  rw [str_of] at this
  exact this
end Go.Proofs.Ytjceoigekifgdaa
