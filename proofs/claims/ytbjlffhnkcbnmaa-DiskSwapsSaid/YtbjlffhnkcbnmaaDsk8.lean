/- The disk of the program: names that turn. -/
import Derived.Test.YtbjlffhnkcbnmaaDsk7
import Derived.Shelf.SlMaps.Clone
namespace Go.Proofs.Ytbjlffhnkcbnmaa
open Go.ChangeShapes Go.WideShapes Go.ChangeAt Go.RowKit Go.Maps
open Pl (Tx Fl Ch Nm Dk)
set_option linter.unusedVariables false

theorem Leaves.turned {b : Nat} {F F' : Nat → Prop} {φ : Nat → Nat} {T : Dk} {w w2 w' : World} (h : Disk w' b F' φ T) (hg : Grew w2 F F') (h1 : Wr F w w2) (h2 : Wr F w2 w') : Leaves b F T w w' :=
  ⟨F', ⟨φ, h⟩, fun k hk => (hg k hk).imp id fun h => Nat.le_trans h1.size h, h1.trans h2 (Grew.refl _ _)⟩
set_option maxRecDepth 100000 in
set_option maxHeartbeats 1600000 in
theorem remove_any {w : World} {b j : Nat} {F : Nat → Prop} {S : Dk} (h : Dsk w b F S) (hI : S.Inv) (hS : S.Small j) (hj : j ≤ 32768) (n : Tx) (hn : n.length ≤ 140737488355328) :
    Calls Try.prog 31 #[.pointer (some ⟨b, 0, none⟩), .string (str n)] w (OpEnd b F (S.removeS n) (.int .i64 (S.appendE n)) w) := by
  obtain ⟨φ, h⟩ := h
  have HFi := find_any h n hn
  unfold FoundEnd at HFi
  have H := Lib.hid h
  have HSt := step_any h (by have := hS.steps; omega) hS.plan
  unfold StepEnd at HSt
  obtain ⟨v1, v2, v3, hv0⟩ := hitV_three S
  rw [hv0] at HSt
  by_cases h0 : S.askE n = 0
  · rw [if_pos h0, h0] at HFi
    replace HFi := Lib.hid HFi
    by_cases hfe : S.faultE = 0
    · rw [hfe] at HSt
      replace HSt := Lib.hid HSt
      have HR := Lib.hid (show S.appendE n = 0 ∧ S.removeS n = S.faultS.turn ⟨3, n, [], 0⟩ from ⟨by unfold Dk.appendE; rw [if_neg (by omega), hfe], by unfold Dk.removeS; rw [if_neg (by omega), if_neg (by omega)]⟩)
      clear h h0 hfe hv0
      go_enter Try.func31, Try.ntmps31
      go_wp2_with fail
      ((with_reducible refine HFi.out.mono ?_); rintro e w1 ⟨rfl, rfl⟩)
      go_wp2_with fail
      ((with_reducible refine HSt.out.mono ?_); rintro e w2 ⟨rfl, d2, r2⟩)
      have HD2 := Lib.hid (And.intro d2 r2)
      have hT := fun o => turn_any (d2.alloc o) (N := S.files.length) (c := ⟨3, n, [], 0⟩) hI.good (by have := hS.files; omega) (.inr (.inr ⟨rfl, rfl⟩)) ⟨hn, by simp⟩ (by have := hS.opn; show S.opn.length ≤ _; omega)
      rw [show chCells φ ⟨3, n, [], 0⟩ = [.bool false, .string (str n), .string ⟨#[]⟩, .pointer none] from rfl] at hT
      replace hT : ∀ o, Calls Try.prog 49 #[.pointer (some ⟨b, 0, none⟩), .agg #[.bool false, .string (str n), .string ⟨#[]⟩, .pointer none]] (w2.alloc o) _ := hT
      have HT := Lib.hid hT
      clear d2 r2 hT
      go_wp2_with fail
      (refine (HT.out _).mono ?_; rintro e w4 ⟨rfl, F', d4, g4, r4⟩)
      have H4 := Lib.hid (show Leaves b F (S.removeS n) w w4 from by rw [HR.out.2]; exact Leaves.turned d4 g4 (HD2.out.2.alloc _) r4)
      clear d4 g4 r4
      go_wp2
      go_ret
      exact ⟨by rw [HR.out.1]; rfl, H4.out⟩
    · obtain ⟨fe, hfe2⟩ : ∃ fe, S.faultE = fe := ⟨_, rfl⟩
      rw [hfe2] at hfe HSt
      replace HSt := Lib.hid HSt
      have HR := Lib.hid (show S.appendE n = fe ∧ S.removeS n = S.faultS from ⟨by unfold Dk.appendE; rw [if_neg (by omega), hfe2], by unfold Dk.removeS; rw [if_neg (by omega), if_pos (by omega)]⟩)
      have b1 : ((fe : Int) == 0) = false := by rw [beq_eq_false_iff_ne]; omega
      clear h h0 hfe hfe2 hv0
      go_enter Try.func31, Try.ntmps31
      go_wp2_with fail
      ((with_reducible refine HFi.out.mono ?_); rintro e w1 ⟨rfl, rfl⟩)
      go_wp2_with fail
      ((with_reducible refine HSt.out.mono ?_); rintro e w2 ⟨rfl, d2, r2⟩)
      have HD2 := Lib.hid (And.intro d2 r2)
      clear d2 r2
      go_wp2
      go_ret
      exact ⟨by rw [HR.out.1]; rfl, by rw [HR.out.2]; exact Leaves.same (HD2.out.1.alloc _) (HD2.out.2.alloc _)⟩
  · skip
    rw [if_neg h0] at HFi
    obtain ⟨k, hk⟩ : ∃ k, S.askE n = k := ⟨_, rfl⟩
    rw [hk] at HFi h0
    replace HFi := Lib.hid HFi
    have b1 : ((k : Int) == 0) = false := by rw [beq_eq_false_iff_ne]; omega
    have HR := Lib.hid (show S.appendE n = k ∧ S.removeS n = S from ⟨by unfold Dk.appendE; rw [if_pos (by omega), hk], by unfold Dk.removeS; rw [if_pos (by omega)]⟩)
    clear h h0 hk HSt hv0
    go_enter Try.func31, Try.ntmps31
    go_wp2_with fail
    ((with_reducible refine HFi.out.mono ?_); rintro e w1 ⟨rfl, rfl⟩)
    go_wp2
    go_ret
    exact ⟨by rw [HR.out.1]; rfl, by rw [HR.out.2]; exact Leaves.same H.out (Wr.refl _ _)⟩
set_option maxRecDepth 100000 in
set_option maxHeartbeats 1600000 in
theorem rename_any {w : World} {b j : Nat} {F : Nat → Prop} {S : Dk} (h : Dsk w b F S) (hI : S.Inv) (hS : S.Small j) (hj : j ≤ 32768) (n m : Tx) (hn : n.length ≤ 140737488355328) (hm : m.length ≤ 140737488355328) :
    Calls Try.prog 30 #[.pointer (some ⟨b, 0, none⟩), .string (str n), .string (str m)] w (OpEnd b F (S.renameS n m) (.int .i64 (S.renameE n m)) w) := by
  obtain ⟨φ, h⟩ := h
  have HFi := find_any h n hn
  unfold FoundEnd at HFi
  have H := Lib.hid h
  have HSt := step_any h (by have := hS.steps; omega) hS.plan
  unfold StepEnd at HSt
  obtain ⟨v1, v2, v3, hv0⟩ := hitV_three S
  rw [hv0] at HSt
  have c5 := (show w.cell? ⟨b, 5, none⟩ = some (.bool S.down) by obtain ⟨_, _, _, _, h⟩ := h; exact h.cells.2.2.2.2.2)
  cases hd : S.down with
  | true =>
    rw [hd] at c5
    have h53 : S.askE n = 53 := by unfold Dk.askE; rw [if_pos hd]
    rw [if_neg (by omega), h53] at HFi
    replace HFi := Lib.hid HFi
    have HR := Lib.hid (show S.renameE n m = 53 ∧ S.renameS n m = S from ⟨by unfold Dk.renameE; rw [if_pos hd], by unfold Dk.renameS; rw [if_pos (.inr (by omega))]⟩)
    clear h h53 hd HSt hv0
    go_enter Try.func30, Try.ntmps30
    go_wp2_with fail
    ((with_reducible refine HFi.out.mono ?_); rintro e w1 ⟨rfl, rfl⟩)
    go_wp2
    go_ret
    exact ⟨by rw [HR.out.1]; rfl, by rw [HR.out.2]; exact Leaves.same H.out (Wr.refl _ _)⟩
  | false =>
  rw [hd] at c5
  by_cases hm0 : m = []
  · have HR := Lib.hid (show S.renameE n m = 1 ∧ S.renameS n m = S from ⟨by unfold Dk.renameE; rw [if_neg (by simp [hd]), if_pos hm0], by unfold Dk.renameS; rw [if_pos (.inl hm0)]⟩)
    have hb1 : ((str m).toList == ([] : List UInt8)) = true := by rw [str_none, decide_eq_true hm0]
    have hb2 : (str m).toList.isEmpty = true := by rw [str_empty, decide_eq_true hm0]
    have hb3 : (str m).toList = [] := by rw [strList]; exact hm0
    clear h hd HSt hv0 HFi hm0
    go_enter Try.func30, Try.ntmps30
    go_wp2
    go_ret
    exact ⟨by rw [HR.out.1]; rfl, by rw [HR.out.2]; exact Leaves.same H.out (Wr.refl _ _)⟩
  have hb1 : ((str m).toList == ([] : List UInt8)) = false := by rw [str_none, decide_eq_false hm0]
  have hb2 : (str m).toList.isEmpty = false := by rw [str_empty, decide_eq_false hm0]
  have hb3 : ¬ (str m).toList = [] := by rw [strList]; exact hm0
  have hre : S.renameE n m = S.appendE n := by unfold Dk.renameE; rw [if_neg (by simp [hd]), if_neg hm0]
  by_cases h0 : S.askE n = 0
  · rw [if_pos h0, h0] at HFi
    replace HFi := Lib.hid HFi
    have HAk := Lib.hid (Pl.askE_ok h0)
    by_cases hfe : S.faultE = 0
    · rw [hfe] at HSt
      replace HSt := Lib.hid HSt
      by_cases hnm : n = m
      · have HR := Lib.hid (show S.renameE n m = 0 ∧ S.renameS n m = S.faultS from ⟨by rw [hre]; unfold Dk.appendE; rw [if_neg (by omega), hfe], by unfold Dk.renameS; rw [if_neg (by rintro (h | h); exact hm0 h; exact h h0), if_pos (.inr hnm)]⟩)
        have hq : ((str n).toList == (str m).toList) = true := by rw [eq_str, decide_eq_true hnm]
        clear h h0 hfe hv0 hm0 hd hre hnm
        go_enter Try.func30, Try.ntmps30
        go_wp2_with fail
        ((with_reducible refine HFi.out.mono ?_); rintro e w1 ⟨rfl, rfl⟩)
        go_wp2_with fail
        ((with_reducible refine HSt.out.mono ?_); rintro e w2 ⟨rfl, d2, r2⟩)
        have HD2 := Lib.hid (And.intro d2 r2)
        clear d2 r2
        go_wp2
        go_ret
        exact ⟨by rw [HR.out.1]; rfl, by rw [HR.out.2]; exact Leaves.same (HD2.out.1.alloc _) (HD2.out.2.alloc _)⟩
      · have HR := Lib.hid (show S.renameE n m = 0 ∧ S.renameS n m = S.faultS.turn ⟨2, n, m, S.fileOf n⟩ from ⟨by rw [hre]; unfold Dk.appendE; rw [if_neg (by omega), hfe], by unfold Dk.renameS; rw [if_neg (by rintro (h | h); exact hm0 h; exact h h0), if_neg (by rintro (h | h); exact h hfe; exact hnm h)]⟩)
        have hq : ((str n).toList == (str m).toList) = false := by rw [eq_str, decide_eq_false hnm]
        have HO := Lib.hid (show Pl.okc S.files.length S.names ⟨2, n, m, S.fileOf n⟩ from .inr (.inl ⟨rfl, HAk.out.2.2, hm0, hnm⟩))
        clear h h0 hfe hv0 hm0 hd hre hnm
        go_enter Try.func30, Try.ntmps30
        go_wp2_with fail
        ((with_reducible refine HFi.out.mono ?_); rintro e w1 ⟨rfl, rfl⟩)
        go_wp2_with fail
        ((with_reducible refine HSt.out.mono ?_); rintro e w2 ⟨rfl, d2, r2⟩)
        have HD2 := Lib.hid (And.intro d2 r2)
        have hT := fun o => turn_any (d2.alloc o) (N := S.files.length) (c := ⟨2, n, m, S.fileOf n⟩) hI.good (by have := hS.files; omega) HO.out ⟨hn, hm⟩ (by have := hS.opn; show S.opn.length ≤ _; omega)
        rw [show chCells φ ⟨2, n, m, S.fileOf n⟩ = [.bool false, .string (str n), .string (str m), .pointer none] from rfl] at hT
        replace hT : ∀ o, Calls Try.prog 49 #[.pointer (some ⟨b, 0, none⟩), .agg #[.bool false, .string (str n), .string (str m), .pointer none]] (w2.alloc o) _ := hT
        have HT := Lib.hid hT
        clear d2 r2 hT
        go_wp2_with fail
        (refine (HT.out _).mono ?_; rintro e w4 ⟨rfl, F', d4, g4, r4⟩)
        have H4 := Lib.hid (show Leaves b F (S.renameS n m) w w4 from by rw [HR.out.2]; exact Leaves.turned d4 g4 (HD2.out.2.alloc _) r4)
        clear d4 g4 r4
        go_wp2
        go_ret
        exact ⟨by rw [HR.out.1]; rfl, H4.out⟩
    · obtain ⟨fe, hfe2⟩ : ∃ fe, S.faultE = fe := ⟨_, rfl⟩
      rw [hfe2] at hfe HSt
      replace HSt := Lib.hid HSt
      have HR := Lib.hid (show S.renameE n m = fe ∧ S.renameS n m = S.faultS from ⟨by rw [hre]; unfold Dk.appendE; rw [if_neg (by omega), hfe2], by unfold Dk.renameS; rw [if_neg (by rintro (h | h); exact hm0 h; exact h h0), if_pos (.inl (by omega))]⟩)
      have b1 : ((fe : Int) == 0) = false := by rw [beq_eq_false_iff_ne]; omega
      clear h h0 hfe hfe2 hv0 hm0 hd hre
      go_enter Try.func30, Try.ntmps30
      go_wp2_with fail
      ((with_reducible refine HFi.out.mono ?_); rintro e w1 ⟨rfl, rfl⟩)
      go_wp2_with fail
      ((with_reducible refine HSt.out.mono ?_); rintro e w2 ⟨rfl, d2, r2⟩)
      have HD2 := Lib.hid (And.intro d2 r2)
      clear d2 r2
      go_wp2
      go_ret
      exact ⟨by rw [HR.out.1]; rfl, by rw [HR.out.2]; exact Leaves.same (HD2.out.1.alloc _) (HD2.out.2.alloc _)⟩
  · skip
    rw [if_neg h0] at HFi
    obtain ⟨k, hk⟩ : ∃ k, S.askE n = k := ⟨_, rfl⟩
    rw [hk] at HFi h0
    replace HFi := Lib.hid HFi
    have b1 : ((k : Int) == 0) = false := by rw [beq_eq_false_iff_ne]; omega
    have HR := Lib.hid (show S.renameE n m = k ∧ S.renameS n m = S from ⟨by rw [hre]; unfold Dk.appendE; rw [if_pos (by omega), hk], by unfold Dk.renameS; rw [if_pos (.inr (by omega))]⟩)
    clear h h0 hk HSt hv0 hm0 hd hre
    go_enter Try.func30, Try.ntmps30
    go_wp2_with fail
    ((with_reducible refine HFi.out.mono ?_); rintro e w1 ⟨rfl, rfl⟩)
    go_wp2
    go_ret
    exact ⟨by rw [HR.out.1]; rfl, by rw [HR.out.2]; exact Leaves.same H.out (Wr.refl _ _)⟩
end Go.Proofs.Ytbjlffhnkcbnmaa
