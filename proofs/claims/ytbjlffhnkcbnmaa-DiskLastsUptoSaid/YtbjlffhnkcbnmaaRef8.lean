/- The document's disk: Append. -/
import Derived.Test.YtbjlffhnkcbnmaaRef7
import Derived.Test.YtbjlffhnkcbnmaaDsk6
namespace Go.Proofs.Ytbjlffhnkcbnmaa
open Go.ChangeShapes Go.WideShapes Go.ChangeAt Go.RowKit Pl
set_option linter.unusedVariables false

theorem laid_case (S : Dk) (s : Tx) (hp : ∀ p ∈ S.plan, 1 ≤ p.2.1 ∧ p.2.1 ≤ 3 ∧ 0 ≤ p.2.2) :
    (S.laid s = s.length ∧ (S.faultE = 0 ∨ (S.faultE ≠ 0 ∧ (s.length : Int) < S.faultN))) ∨ (S.faultE ≠ 0 ∧ ¬ (s.length : Int) < S.faultN ∧ S.faultN = (S.laid s : Int) ∧ S.laid s ≤ s.length) := by
  by_cases h : S.faultE = 0
  · exact .inl ⟨by unfold Dk.laid; rw [if_pos h], .inl h⟩
  · by_cases h2 : (s.length : Int) < S.faultN
    · exact .inl ⟨by unfold Dk.laid; rw [if_neg h, if_pos h2], .inr ⟨h, h2⟩⟩
    · have hN : 0 ≤ S.faultN := by
        unfold Dk.faultN
        cases hh : S.hit with
        | none => exact Int.le_refl _
        | some p =>
          have := (hp p (List.mem_of_find?_eq_some hh)).2.2
          simp only
          split <;> omega
      have hl : S.laid s = S.faultN.toNat := by unfold Dk.laid; rw [if_neg h, if_neg h2]
      exact .inr ⟨h, h2, by rw [hl]; omega, by rw [hl]; omega⟩
set_option maxRecDepth 100000 in
set_option maxHeartbeats 1600000 in
theorem refAppend_any {w : World} {b j : Nat} {F : Nat → Prop} {S : Dk} (h : RDisk w b F S) (hI : S.Inv) (hS : S.Small j) (hj : j ≤ 4194304) (n s : Tx) (hsl : s.length ≤ 1048576) :
    Calls Try.prog 39 #[.pointer (some ⟨b, 0, none⟩), .string (str n), .string (str s)] w (ROpEnd b F (S.appendS n s) (.tuple #[.int .i64 (S.appendN n s), .int .i64 (S.appendE n)]) w) := by
  have HA := Lib.hid (refAsked_any h (Nat.le_trans hI.good.few (by have := hS.files; omega)) n)
  unfold RAskEnd at HA
  have HF := Lib.hid (refFault_any h (by have := hS.steps; omega) hS.plan hI.plan)
  unfold RFaultEnd at HF
  have H := Lib.hid h
  have hss := str_size s
  by_cases h0 : S.askE n = 0
  · have hlt := hI.fileLt h0
    obtain ⟨f, hf⟩ : ∃ f, S.files[S.fileOf n]? = some f := ⟨_, List.getElem?_eq_getElem hlt⟩
    have hft := hS.texts f (List.mem_of_getElem? hf)
    have hfs := str_size f.text
    rw [if_pos h0, h0] at HA
    have hla := laid_case S s hI.plan
    obtain ⟨L, hL⟩ : ∃ L, S.laid s = L := ⟨_, rfl⟩
    obtain ⟨fe, hfe⟩ : ∃ fe, S.faultE = fe := ⟨_, rfl⟩
    obtain ⟨fn, hfn⟩ : ∃ fn, S.faultN = fn := ⟨_, rfl⟩
    rw [hL, hfe, hfn] at hla
    have HV := Lib.hid (show S.appendS n s = S.faultS.setF (S.fileOf n) (fun f => ⟨f.text ++ s.take L, f.sync⟩) ∧ S.appendN n s = L ∧ S.appendE n = fe from ⟨by unfold Dk.appendS; rw [if_neg (by omega), hL], by unfold Dk.appendN; rw [if_neg (by omega), hL], by unfold Dk.appendE; rw [if_neg (by omega), hfe]⟩)
    rw [hfe, hfn] at HF
    obtain ⟨i, hi⟩ : ∃ i, S.fileOf n = i := ⟨_, rfl⟩
    rw [hi] at HA HV hf hlt
    have hiI : (i : Int) < (S.files.length : Int) := by omega
    have hi0 : (0 : Int) ≤ (i : Int) := by omega
    have HFl := Lib.hid hf
    have hLs : L ≤ s.length := by rcases hla with h | h <;> omega
    have hcut := str_take s L hLs
    have hcat := str_append f.text (s.take L)
    have hts : (str (s.take L)).size = L := by rw [str_size, List.length_take]; omega
    have hLI : (L : Int) ≤ (s.length : Int) := by omega
    have hL0 : (0 : Int) ≤ (L : Int) := by omega
    have hbig : ¬ 9223372036854775807 < f.text.length + L := by omega
    clear h h0 hf hi hI hft hfe hfn hL
    rcases hla with ⟨hLe, h2 | ⟨h2, h3⟩⟩ | ⟨h2, h3, h4, -⟩
    · subst h2
      rw [← hLe] at hss
      clear hLe
      skip
      go_enter Try.func39, Try.ntmps39
      go_wp2_with fail
      ((refine HA.out.mono ?_); rintro e w1 ⟨rfl, rfl⟩)
      go_wp2_with fail
      ((refine HF.out.mono ?_); rintro e w1 ⟨rfl, ⟨fv, nv, lv, ov, pv, h1⟩, r1⟩)
      obtain ⟨fa, fc, rfl⟩ := h1.files.shape
      obtain ⟨g, rfl, -, hFg, hg, p0, p1⟩ := h1.file (show S.faultS.files[i]? = some f from HFl.out)
      obtain ⟨d0, -, -, -, -, -, -⟩ := h1.cells
      have hst := fun nq => (h1.below (below_drewN (Below.refl w1.heap.size w1) nq)).stored (i * 2) (.string (str (f.text ++ s.take L))) (S.faultS.files.modify i (fun f => ⟨f.text ++ s.take L, f.sync⟩)) (List.length_modify ..) (rfRow_set0 (show S.faultS.files[i]? = some f from HFl.out) rfl) rfl (show 0 < S.files.length by omega)
      have g1 : w1.drew.frozen? ⟨g, i * 2, none⟩ = false := (hst 0).2.2
      have p0' : w1.drew.cell? ⟨g, i * 2, none⟩ = some (.string (str f.text)) := p0
      have HS := Lib.hid (fun nq => And.intro (hst nq).1 (And.intro (hst nq).2.1 r1))
      have hfl : S.faultS.files.length = S.files.length := rfl
      rw [hfl] at d0
      clear h1 r1 hst hfl
      go_wp2_with fail
      go_still_tail 14, (by kernel_rfl)
      go_wp2
      go_ret2
      exact ⟨by rw [HV.out.2.1, HV.out.2.2]; rfl, F, by rw [HV.out.1]; exact (HS.out 1).1.disk, Grew.refl _ _, ((HS.out 0).2.2.drewN 1).setCell (p := ⟨g, i * 2, none⟩) (HS.out 0).2.1 _⟩
    · have b1 : ((fe : Int) == 0) = false := by rw [beq_eq_false_iff_ne]; omega
      rw [← hLe] at hss h3
      clear h2 hLe
      skip
      go_enter Try.func39, Try.ntmps39
      go_wp2_with fail
      ((refine HA.out.mono ?_); rintro e w1 ⟨rfl, rfl⟩)
      go_wp2_with fail
      ((refine HF.out.mono ?_); rintro e w1 ⟨rfl, ⟨fv, nv, lv, ov, pv, h1⟩, r1⟩)
      obtain ⟨fa, fc, rfl⟩ := h1.files.shape
      obtain ⟨g, rfl, -, hFg, hg, p0, p1⟩ := h1.file (show S.faultS.files[i]? = some f from HFl.out)
      obtain ⟨d0, -, -, -, -, -, -⟩ := h1.cells
      have hst := fun nq => (h1.below (below_drewN (Below.refl w1.heap.size w1) nq)).stored (i * 2) (.string (str (f.text ++ s.take L))) (S.faultS.files.modify i (fun f => ⟨f.text ++ s.take L, f.sync⟩)) (List.length_modify ..) (rfRow_set0 (show S.faultS.files[i]? = some f from HFl.out) rfl) rfl (show 0 < S.files.length by omega)
      have g1 : w1.drew.frozen? ⟨g, i * 2, none⟩ = false := (hst 0).2.2
      have p0' : w1.drew.cell? ⟨g, i * 2, none⟩ = some (.string (str f.text)) := p0
      have HS := Lib.hid (fun nq => And.intro (hst nq).1 (And.intro (hst nq).2.1 r1))
      have hfl : S.faultS.files.length = S.files.length := rfl
      rw [hfl] at d0
      clear h1 r1 hst hfl
      go_wp2_with fail
      go_still_tail 14, (by kernel_rfl)
      go_wp2
      go_ret2
      exact ⟨by rw [HV.out.2.1, HV.out.2.2]; rfl, F, by rw [HV.out.1]; exact (HS.out 1).1.disk, Grew.refl _ _, ((HS.out 0).2.2.drewN 1).setCell (p := ⟨g, i * 2, none⟩) (HS.out 0).2.1 _⟩
    · have b1 : ((fe : Int) == 0) = false := by rw [beq_eq_false_iff_ne]; omega
      subst h4
      clear h2
      go_enter Try.func39, Try.ntmps39
      go_wp2_with fail
      ((refine HA.out.mono ?_); rintro e w1 ⟨rfl, rfl⟩)
      go_wp2_with fail
      ((refine HF.out.mono ?_); rintro e w1 ⟨rfl, ⟨fv, nv, lv, ov, pv, h1⟩, r1⟩)
      obtain ⟨fa, fc, rfl⟩ := h1.files.shape
      obtain ⟨g, rfl, -, hFg, hg, p0, p1⟩ := h1.file (show S.faultS.files[i]? = some f from HFl.out)
      obtain ⟨d0, -, -, -, -, -, -⟩ := h1.cells
      have hst := fun nq => (h1.below (below_drewN (Below.refl w1.heap.size w1) nq)).stored (i * 2) (.string (str (f.text ++ s.take L))) (S.faultS.files.modify i (fun f => ⟨f.text ++ s.take L, f.sync⟩)) (List.length_modify ..) (rfRow_set0 (show S.faultS.files[i]? = some f from HFl.out) rfl) rfl (show 0 < S.files.length by omega)
      have g1 : w1.drew.frozen? ⟨g, i * 2, none⟩ = false := (hst 0).2.2
      have p0' : w1.drew.cell? ⟨g, i * 2, none⟩ = some (.string (str f.text)) := p0
      have HS := Lib.hid (fun nq => And.intro (hst nq).1 (And.intro (hst nq).2.1 r1))
      have hfl : S.faultS.files.length = S.files.length := rfl
      rw [hfl] at d0
      clear h1 r1 hst hfl
      go_wp2_with fail
      go_still_tail 14, (by kernel_rfl)
      go_wp2
      go_ret2
      exact ⟨by rw [HV.out.2.1, HV.out.2.2]; rfl, F, by rw [HV.out.1]; exact (HS.out 1).1.disk, Grew.refl _ _, ((HS.out 0).2.2.drewN 1).setCell (p := ⟨g, i * 2, none⟩) (HS.out 0).2.1 _⟩
  · rw [if_neg h0] at HA
    obtain ⟨k, hk⟩ : ∃ k, S.askE n = k := ⟨_, rfl⟩
    have HV := Lib.hid (show S.appendS n s = S ∧ S.appendN n s = 0 ∧ S.appendE n = k from ⟨by unfold Dk.appendS; rw [if_pos h0], by unfold Dk.appendN; rw [if_pos h0], by unfold Dk.appendE; rw [if_pos h0, hk]⟩)
    rw [hk] at HA h0
    have b1 : ((k : Int) == 0) = false := by rw [beq_eq_false_iff_ne]; omega
    clear h h0 hk hI
    go_enter Try.func39, Try.ntmps39
    go_wp2_with fail
    ((refine HA.out.mono ?_); rintro e w1 ⟨rfl, rfl⟩)
    go_wp2
    go_ret2
    exact ⟨by rw [HV.out.2.1, HV.out.2.2]; rfl, F, by rw [HV.out.1]; exact H.out, Grew.refl _ _, Wr.refl _ _⟩
end Go.Proofs.Ytbjlffhnkcbnmaa
