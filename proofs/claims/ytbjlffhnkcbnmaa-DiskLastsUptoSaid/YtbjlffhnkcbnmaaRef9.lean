/- The document's disk: Create, Rename, Remove. -/
import Derived.Test.YtbjlffhnkcbnmaaRef4b
import Derived.Test.YtbjlffhnkcbnmaaRef7
namespace Go.Proofs.Ytbjlffhnkcbnmaa
open Go.ChangeShapes Go.WideShapes Go.ChangeAt Go.RowKit Pl
set_option linter.unusedVariables false

/-- A turn of the disk behind a step. -/
theorem turn_leaves {w w1 w2 : World} {b : Nat} {F : Nat → Prop} {T : Dk} (hr : Wr F w w1) (h : RLeaves b F T w1 w2) : RLeaves b F T w w2 := by
  obtain ⟨F', d, g, r⟩ := h
  exact ⟨F', d, fun k hk => (g k hk).imp id fun h => Nat.le_trans hr.size h, hr.trans r (Grew.refl _ _)⟩
set_option maxRecDepth 100000 in
set_option maxHeartbeats 1600000 in
theorem refRemove_any {w : World} {b j : Nat} {F : Nat → Prop} {S : Dk} (h : RDisk w b F S) (hI : S.Inv) (hS : S.Small j) (hj : j ≤ 4194300) (n : Tx) :
    Calls Try.prog 43 #[.pointer (some ⟨b, 0, none⟩), .string (str n)] w (ROpEnd b F (S.removeS n) (.int .i64 (S.appendE n)) w) := by
  have HA := Lib.hid (refAsked_any h (Nat.le_trans hI.good.few (by have := hS.files; omega)) n)
  unfold RAskEnd at HA
  have HF := Lib.hid (refFault_any h (by have := hS.steps; omega) hS.plan hI.plan)
  unfold RFaultEnd at HF
  have H := Lib.hid h
  by_cases h0 : S.askE n = 0
  · rw [if_pos h0, h0] at HA
    by_cases he : S.faultE = 0
    · have HV := Lib.hid (show S.removeS n = S.faultS.turn ⟨3, n, [], 0⟩ ∧ S.appendE n = 0 from ⟨by unfold Dk.removeS; rw [if_neg (by omega), if_neg (by omega)], by unfold Dk.appendE; rw [if_neg (by omega), he]⟩)
      rw [he] at HF
      have HT := Lib.hid (fun (W : World) (hd : RDisk W b F S.faultS) => refTurn_any (w := W) hd (N := S.files.length) hI.good (by have := hS.files; omega) (c := ⟨3, n, [], 0⟩) (by show 1 ≤ 3 ∧ 3 ≤ 3; omega) (by have := hS.opn; show S.opn.length ≤ _; omega))
      clear h h0 he
      go_enter Try.func43, Try.ntmps43
      go_wp2_with fail
      ((refine HA.out.mono ?_); rintro e w1 ⟨rfl, rfl⟩)
      go_wp2_with fail
      ((refine HF.out.mono ?_); rintro e w1 ⟨rfl, h1, r1⟩)
      have HT1 := Lib.hid (HT.out w1 h1)
      have HR := Lib.hid r1
      clear h1 r1
      go_wp2_with fail
      ((refine HT1.out.mono ?_); rintro e w2 ⟨rfl, r2⟩)
      have H2 := Lib.hid (turn_leaves HR.out r2)
      clear r2
      go_wp2
      go_ret
      exact ⟨by rw [HV.out.2]; rfl, by rw [HV.out.1]; exact H2.out⟩
    · obtain ⟨k, hk⟩ : ∃ k, S.faultE = k := ⟨_, rfl⟩
      have HV := Lib.hid (show S.removeS n = S.faultS ∧ S.appendE n = k from ⟨by unfold Dk.removeS; rw [if_neg (by omega), if_pos he], by unfold Dk.appendE; rw [if_neg (by omega), hk]⟩)
      rw [hk] at HF he
      have b1 : ((k : Int) == 0) = false := by rw [beq_eq_false_iff_ne]; omega
      clear h h0 he hk hI
      go_enter Try.func43, Try.ntmps43
      go_wp2_with fail
      ((refine HA.out.mono ?_); rintro e w1 ⟨rfl, rfl⟩)
      go_wp2_with fail
      ((refine HF.out.mono ?_); rintro e w1 ⟨rfl, h1, r1⟩)
      have H1 := Lib.hid (And.intro h1 r1)
      clear h1 r1
      go_wp2
      go_ret
      exact ⟨by rw [HV.out.2]; rfl, F, by rw [HV.out.1]; exact H1.out.1, Grew.refl _ _, H1.out.2⟩
  · rw [if_neg h0] at HA
    obtain ⟨k, hk⟩ : ∃ k, S.askE n = k := ⟨_, rfl⟩
    have HV := Lib.hid (show S.removeS n = S ∧ S.appendE n = k from ⟨by unfold Dk.removeS; rw [if_pos h0], by unfold Dk.appendE; rw [if_pos h0, hk]⟩)
    rw [hk] at HA h0
    have b1 : ((k : Int) == 0) = false := by rw [beq_eq_false_iff_ne]; omega
    clear h h0 hk hI
    go_enter Try.func43, Try.ntmps43
    go_wp2_with fail
    ((refine HA.out.mono ?_); rintro e w1 ⟨rfl, rfl⟩)
    go_wp2
    go_ret
    exact ⟨by rw [HV.out.2]; rfl, F, by rw [HV.out.1]; exact H.out, Grew.refl _ _, Wr.refl _ _⟩
set_option maxRecDepth 100000 in
set_option maxHeartbeats 1600000 in
theorem refRename_any {w : World} {b j : Nat} {F : Nat → Prop} {S : Dk} (h : RDisk w b F S) (hI : S.Inv) (hS : S.Small j) (hj : j ≤ 4194300) (n m : Tx) :
    Calls Try.prog 42 #[.pointer (some ⟨b, 0, none⟩), .string (str n), .string (str m)] w (ROpEnd b F (S.renameS n m) (.int .i64 (S.renameE n m)) w) := by
  have HA := Lib.hid (refAsked_any h (Nat.le_trans hI.good.few (by have := hS.files; omega)) n)
  unfold RAskEnd at HA
  have HF := Lib.hid (refFault_any h (by have := hS.steps; omega) hS.plan hI.plan)
  unfold RFaultEnd at HF
  have H := Lib.hid h
  have hcell : w.cell? ⟨b, 6, none⟩ = some (.bool S.down) := by
    obtain ⟨fv, nv, lv, ov, pv, h⟩ := h
    exact h.cells.2.2.2.2.2.2
  cases hd : S.down with
  | true =>
    rw [hd] at hcell
    have HV := Lib.hid (show S.renameS n m = S ∧ S.renameE n m = 53 from ⟨by
      unfold Dk.renameS
      rw [if_pos (.inr (by unfold Dk.askE; rw [if_pos hd]; decide))], by unfold Dk.renameE; rw [if_pos hd]⟩)
    clear h hd hI
    go_enter Try.func42, Try.ntmps42
    go_wp2
    go_ret
    exact ⟨by rw [HV.out.2]; rfl, F, by rw [HV.out.1]; exact H.out, Grew.refl _ _, Wr.refl _ _⟩
  | false =>
  rw [hd] at hcell
  by_cases hm : m = []
  · have hb : ((str m).toList == ([] : List UInt8)) = true := by rw [str_none, decide_eq_true hm]
    have HV := Lib.hid (show S.renameS n m = S ∧ S.renameE n m = 1 from ⟨by unfold Dk.renameS; rw [if_pos (.inl hm)], by unfold Dk.renameE; rw [if_neg (by simp [hd]), if_pos hm]⟩)
    clear h hd hI hm
    go_enter Try.func42, Try.ntmps42
    go_wp2
    go_ret
    exact ⟨by rw [HV.out.2]; rfl, F, by rw [HV.out.1]; exact H.out, Grew.refl _ _, Wr.refl _ _⟩
  have hb : ((str m).toList == ([] : List UInt8)) = false := by rw [str_none, decide_eq_false hm]
  have hE : S.renameE n m = S.appendE n := by unfold Dk.renameE; rw [if_neg (by simp [hd]), if_neg hm]
  rw [hE]
  by_cases h0 : S.askE n = 0
  · rw [if_pos h0, h0] at HA
    by_cases he : S.faultE = 0
    · rw [he] at HF
      obtain ⟨f, hf⟩ : ∃ f, S.fileOf n = f := ⟨_, rfl⟩
      rw [hf] at HA
      by_cases hnm : n = m
      · have hb2 : ((str n).toList == (str m).toList) = true := by rw [eq_str, decide_eq_true hnm]
        have HV := Lib.hid (show S.renameS n m = S.faultS ∧ S.appendE n = 0 from ⟨by unfold Dk.renameS; rw [if_neg (by rintro (h | h); exact hm h; omega), if_pos (.inr hnm)], by unfold Dk.appendE; rw [if_neg (by omega), he]⟩)
        clear h h0 he hd hm hI hE hf hnm
        go_enter Try.func42, Try.ntmps42
        go_wp2_with fail
        ((refine HA.out.mono ?_); rintro e w1 ⟨rfl, rfl⟩)
        go_wp2_with fail
        ((refine HF.out.mono ?_); rintro e w1 ⟨rfl, h1, r1⟩)
        have H1 := Lib.hid (And.intro h1 r1)
        clear h1 r1
        go_wp2
        go_ret
        exact ⟨by rw [HV.out.2]; rfl, F, by rw [HV.out.1]; exact H1.out.1, Grew.refl _ _, H1.out.2⟩
      · have hb2 : ((str n).toList == (str m).toList) = false := by rw [eq_str, decide_eq_false hnm]
        have HV := Lib.hid (show S.renameS n m = S.faultS.turn ⟨2, n, m, f⟩ ∧ S.appendE n = 0 from ⟨by unfold Dk.renameS; rw [if_neg (by rintro (h | h); exact hm h; omega), if_neg (by rintro (h | h); omega; exact hnm h), hf], by unfold Dk.appendE; rw [if_neg (by omega), he]⟩)
        have HT := Lib.hid (fun (W : World) (hd : RDisk W b F S.faultS) => refTurn_any (w := W) hd (N := S.files.length) hI.good (by have := hS.files; omega) (c := ⟨2, n, m, f⟩) (by show 1 ≤ 2 ∧ 2 ≤ 3; omega) (by have := hS.opn; show S.opn.length ≤ _; omega))
        clear h h0 he hd hm hI hE hf hnm
        go_enter Try.func42, Try.ntmps42
        go_wp2_with fail
        ((refine HA.out.mono ?_); rintro e w1 ⟨rfl, rfl⟩)
        go_wp2_with fail
        ((refine HF.out.mono ?_); rintro e w1 ⟨rfl, h1, r1⟩)
        have HT1 := Lib.hid (HT.out w1 h1)
        have HR := Lib.hid r1
        clear h1 r1
        go_wp2_with fail
        ((refine HT1.out.mono ?_); rintro e w2 ⟨rfl, r2⟩)
        have H2 := Lib.hid (turn_leaves HR.out r2)
        clear r2
        go_wp2
        go_ret
        exact ⟨by rw [HV.out.2]; rfl, by rw [HV.out.1]; exact H2.out⟩
    · obtain ⟨k, hk⟩ : ∃ k, S.faultE = k := ⟨_, rfl⟩
      have HV := Lib.hid (show S.renameS n m = S.faultS ∧ S.appendE n = k from ⟨by unfold Dk.renameS; rw [if_neg (by rintro (h | h); exact hm h; omega), if_pos (.inl he)], by unfold Dk.appendE; rw [if_neg (by omega), hk]⟩)
      rw [hk] at HF he
      have b1 : ((k : Int) == 0) = false := by rw [beq_eq_false_iff_ne]; omega
      clear h h0 he hk hI hd hm hE
      go_enter Try.func42, Try.ntmps42
      go_wp2_with fail
      ((refine HA.out.mono ?_); rintro e w1 ⟨rfl, rfl⟩)
      go_wp2_with fail
      ((refine HF.out.mono ?_); rintro e w1 ⟨rfl, h1, r1⟩)
      have H1 := Lib.hid (And.intro h1 r1)
      clear h1 r1
      go_wp2
      go_ret
      exact ⟨by rw [HV.out.2]; rfl, F, by rw [HV.out.1]; exact H1.out.1, Grew.refl _ _, H1.out.2⟩
  · rw [if_neg h0] at HA
    obtain ⟨k, hk⟩ : ∃ k, S.askE n = k := ⟨_, rfl⟩
    have HV := Lib.hid (show S.renameS n m = S ∧ S.appendE n = k from ⟨by unfold Dk.renameS; rw [if_pos (.inr h0)], by unfold Dk.appendE; rw [if_pos h0, hk]⟩)
    rw [hk] at HA h0
    have b1 : ((k : Int) == 0) = false := by rw [beq_eq_false_iff_ne]; omega
    clear h h0 hk hI hd hm hE
    go_enter Try.func42, Try.ntmps42
    go_wp2_with fail
    ((refine HA.out.mono ?_); rintro e w1 ⟨rfl, rfl⟩)
    go_wp2
    go_ret
    exact ⟨by rw [HV.out.2]; rfl, F, by rw [HV.out.1]; exact H.out, Grew.refl _ _, Wr.refl _ _⟩
end Go.Proofs.Ytbjlffhnkcbnmaa
