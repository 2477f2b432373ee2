/- The document's disk: Read, Synced, SyncNames, Texts. -/
import Derived.Test.YtbjlffhnkcbnmaaRef3
namespace Go.Proofs.Ytbjlffhnkcbnmaa
open Go.ChangeShapes Go.WideShapes Go.ChangeAt Go.RowKit Pl
set_option linter.unusedVariables false

theorem rfRow_get : ∀ {l : List Fl} {j : Nat} {f : Fl}, l[j]? = some f → (l.flatMap rfCells)[j * 2]? = some (strV f.text) ∧ (l.flatMap rfCells)[j * 2 + 1]? = some (.int .i64 f.sync)
  | [], j, p, h => by simp at h
  | q :: r, 0, p, h => by simp at h; subst h; exact ⟨rfl, rfl⟩
  | q :: r, j + 1, p, h => by
    obtain ⟨h1, h2⟩ := rfRow_get (l := r) (j := j) (f := p) (by simpa using h)
    have e : ∀ i, ((q :: r).flatMap rfCells)[(j + 1) * 2 + i]? = (r.flatMap rfCells)[j * 2 + i]? := fun i => by
      rw [List.flatMap_cons, List.getElem?_append_right (by simp [rfCells]; omega)]
      congr 1; simp [rfCells]; omega
    exact ⟨(e 0).trans h1, (e 1).trans h2⟩
/-- A file of the row. -/
theorem RDiskAt.file {w : World} {b : Nat} {F : Nat → Prop} {S : Dk} {ao : Option Addr} {n cp : Nat} {nv lv ov pv : Value} (h : RDiskAt w b F S (.slice ao n cp) nv lv ov pv) {i : Nat} {f : Fl} (hf : S.files[i]? = some f) :
    ∃ g, ao = some ⟨g, 0, none⟩ ∧ n = S.files.length ∧ F g ∧ g < w.heap.size ∧ w.cell? ⟨g, i * 2, none⟩ = some (.string (str f.text)) ∧ w.cell? ⟨g, i * 2 + 1, none⟩ = some (.int .i64 f.sync) := by
  have hj := (List.getElem?_eq_some_iff.1 hf).1
  obtain ⟨g, c, e, hF, hg, -, hc⟩ := RowC.at_ h.files (by omega) (by omega)
  simp only [Value.slice.injEq] at e
  obtain ⟨h1, h2⟩ := rfRow_get hf
  exact ⟨g, e.1, e.2.1, hF, hg, hc _ _ h1, hc _ _ h2⟩
set_option maxRecDepth 100000 in
theorem refRead_any {w : World} {b : Nat} {F : Nat → Prop} {S : Dk} (h : RDisk w b F S) (hI : S.Inv) (hl : S.names.length ≤ 4194304) (hfl : S.files.length ≤ 4194304) (n : Tx) :
    Calls Try.prog 46 #[.pointer (some ⟨b, 0, none⟩), .string (str n)] w fun e w' => e = .returned (.tuple #[.string (str (S.readT n)), .int .i64 (S.askE n)]) ∧ w = w' := by
  obtain ⟨fv, nv, lv, ov, pv, h⟩ := h
  have HA := Lib.hid (refAsked_any ⟨fv, nv, lv, ov, pv, h⟩ hl n)
  unfold RAskEnd at HA
  obtain ⟨fa, fc, rfl⟩ := h.files.shape
  obtain ⟨c0, -, -, -, -, -, -⟩ := h.cells
  by_cases h0 : S.askE n = 0
  · have hlt := hI.fileLt h0
    obtain ⟨f, hf⟩ : ∃ f, S.files[S.fileOf n]? = some f := ⟨_, List.getElem?_eq_getElem hlt⟩
    obtain ⟨g, rfl, -, hF, hg, p0, p1⟩ := h.file hf
    have HR := Lib.hid (show S.readT n = f.text ∧ S.askE n = 0 from ⟨by unfold Dk.readT; rw [if_pos h0, hf], h0⟩)
    rw [if_pos h0, h0] at HA
    obtain ⟨i, hi⟩ : ∃ i, S.fileOf n = i := ⟨_, rfl⟩
    rw [hi] at HA p0 p1 hlt
    have hiI : (i : Int) < (S.files.length : Int) := by omega
    have hi0 : (0 : Int) ≤ (i : Int) := by omega
    clear h h0 hf hi hI
    go_enter Try.func46, Try.ntmps46
    go_wp2_with fail
    ((refine HA.out.mono ?_); rintro e w1 ⟨rfl, rfl⟩)
    go_wp2
    go_ret2
    exact ⟨by rw [HR.out.1, HR.out.2]; rfl, rfl⟩
  · rw [if_neg h0] at HA
    obtain ⟨k, hk⟩ : ∃ k, S.askE n = k := ⟨_, rfl⟩
    rw [hk] at HA h0
    have b1 : ((k : Int) == 0) = false := by rw [beq_eq_false_iff_ne]; omega
    have HR := Lib.hid (show S.readT n = [] ∧ S.askE n = k from ⟨by unfold Dk.readT; rw [if_neg (by omega)], hk⟩)
    clear h h0 hk hI
    go_enter Try.func46, Try.ntmps46
    go_wp2_with fail
    ((refine HA.out.mono ?_); rintro e w1 ⟨rfl, rfl⟩)
    go_wp2
    go_ret2
    exact ⟨by rw [HR.out.1, HR.out.2]; rfl, rfl⟩
set_option maxRecDepth 100000 in
theorem refSynced_any {w : World} {b : Nat} {F : Nat → Prop} {S : Dk} (h : RDisk w b F S) (hI : S.Inv) (hl : S.names.length ≤ 4194304) (hfl : S.files.length ≤ 4194304) (n : Tx) :
    Calls Try.prog 47 #[.pointer (some ⟨b, 0, none⟩), .string (str n)] w fun e w' => e = .returned (.tuple #[.int .i64 (S.readN n), .int .i64 (S.askE n)]) ∧ w = w' := by
  obtain ⟨fv, nv, lv, ov, pv, h⟩ := h
  have HA := Lib.hid (refAsked_any ⟨fv, nv, lv, ov, pv, h⟩ hl n)
  unfold RAskEnd at HA
  obtain ⟨fa, fc, rfl⟩ := h.files.shape
  obtain ⟨c0, -, -, -, -, -, -⟩ := h.cells
  by_cases h0 : S.askE n = 0
  · have hlt := hI.fileLt h0
    obtain ⟨f, hf⟩ : ∃ f, S.files[S.fileOf n]? = some f := ⟨_, List.getElem?_eq_getElem hlt⟩
    obtain ⟨g, rfl, -, hF, hg, p0, p1⟩ := h.file hf
    have HR := Lib.hid (show S.readN n = f.sync ∧ S.askE n = 0 from ⟨by unfold Dk.readN; rw [if_pos h0, hf], h0⟩)
    rw [if_pos h0, h0] at HA
    obtain ⟨i, hi⟩ : ∃ i, S.fileOf n = i := ⟨_, rfl⟩
    rw [hi] at HA p0 p1 hlt
    have hiI : (i : Int) < (S.files.length : Int) := by omega
    have hi0 : (0 : Int) ≤ (i : Int) := by omega
    clear h h0 hf hi hI
    go_enter Try.func47, Try.ntmps47
    go_wp2_with fail
    ((refine HA.out.mono ?_); rintro e w1 ⟨rfl, rfl⟩)
    go_wp2
    go_ret2
    exact ⟨by rw [HR.out.1, HR.out.2]; rfl, rfl⟩
  · rw [if_neg h0] at HA
    obtain ⟨k, hk⟩ : ∃ k, S.askE n = k := ⟨_, rfl⟩
    rw [hk] at HA h0
    have b1 : ((k : Int) == 0) = false := by rw [beq_eq_false_iff_ne]; omega
    have HR := Lib.hid (show S.readN n = 0 ∧ S.askE n = k from ⟨by unfold Dk.readN; rw [if_neg (by omega)], hk⟩)
    clear h h0 hk hI
    go_enter Try.func47, Try.ntmps47
    go_wp2_with fail
    ((refine HA.out.mono ?_); rintro e w1 ⟨rfl, rfl⟩)
    go_wp2
    go_ret2
    exact ⟨by rw [HR.out.1, HR.out.2]; rfl, rfl⟩
/-- What a call leaves of the document's disk. -/
def RLeaves (b : Nat) (F : Nat → Prop) (T : Dk) (w w' : World) : Prop := ∃ F', RDisk w' b F' T ∧ Grew w F F' ∧ Wr F w w'
def ROpEnd (b : Nat) (F : Nat → Prop) (T : Dk) (v : Value) (w : World) (e : Ending) (w' : World) : Prop := e = .returned v ∧ RLeaves b F T w w'
theorem RDiskAt.synced {w : World} {b : Nat} {F : Nat → Prop} {S : Dk} {fv nv lv ov pv : Value} (h : RDiskAt w b F S fv nv lv ov pv) :
    RDiskAt ((w.setCell ⟨b, 2, none⟩ nv).setCell ⟨b, 3, none⟩ (.slice none 0 0)) b F { S with last := S.names, opn := [] } fv nv nv (.slice none 0 0) pv := by
  have hb := heap_setCell_same (i := 3) (v := .slice none 0 0) (heap_setCell_same (i := 2) (v := nv) h.block)
  have ho : ∀ k, k ≠ b → ((w.setCell ⟨b, 2, none⟩ nv).setCell ⟨b, 3, none⟩ (.slice none 0 0)).heap[k]? = w.heap[k]? := fun k hk => by
    repeat rw [Below.heap_setCell _ _ _ _ hk]
  have hs : ((w.setCell ⟨b, 2, none⟩ nv).setCell ⟨b, 3, none⟩ (.slice none 0 0)).heap.size = w.heap.size := by repeat rw [heap_setCell_size]
  exact ⟨fun k hk => by rw [hs]; exact h.lt k hk, h.own, hb, h.files.kept_by fun k cur hk => ho k (h.notb (by decide) hk), RowC.kept_by h.names fun k cur hk => ho k (h.notb (by decide) hk), RowC.kept_by h.names fun k cur hk => ho k (h.notb (by decide) hk),
    RowC.nil _ _ _ _, h.plan.same (by rw [hs]; exact Nat.le_refl _) fun k cur fz _ hk => ho k (h.notb (by decide) hk)⟩
set_option maxRecDepth 100000 in
theorem refSyncNames_any {w : World} {b j : Nat} {F : Nat → Prop} {S : Dk} (h : RDisk w b F S) (hI : S.Inv) (hS : S.Small j) (hj : j ≤ 4194304) :
    Calls Try.prog 44 #[.pointer (some ⟨b, 0, none⟩)] w (ROpEnd b F S.namesS (.int .i64 S.namesE) w) := by
  have HF := Lib.hid (refFault_any h (by have := hS.steps; omega) hS.plan hI.plan)
  unfold RFaultEnd at HF
  have H := Lib.hid h
  obtain ⟨fv, nv, lv, ov, pv, h⟩ := h
  obtain ⟨-, -, -, -, -, -, c6⟩ := h.cells
  cases hd : S.down with
  | true =>
    rw [hd] at c6
    have HV := Lib.hid (show S.namesS = S ∧ S.namesE = 53 from ⟨by unfold Dk.namesS; rw [if_pos hd], by unfold Dk.namesE; rw [if_pos hd]⟩)
    clear hd h
    go_enter Try.func44, Try.ntmps44
    go_wp2
    go_ret
    exact ⟨by rw [HV.out.2]; rfl, F, by rw [HV.out.1]; exact H.out, Grew.refl _ _, Wr.refl _ _⟩
  | false =>
    rw [hd] at c6
    by_cases he : S.faultE = 0
    · have HV := Lib.hid (show S.namesS = { S.faultS with last := S.faultS.names, opn := [] } ∧ S.namesE = 0 from ⟨by unfold Dk.namesS; rw [if_neg (by simp [hd]), if_neg (by omega)]; rfl, by unfold Dk.namesE; rw [if_neg (by simp [hd]), he]⟩)
      rw [he] at HF
      clear hd h he
      go_enter Try.func44, Try.ntmps44
      go_wp2_with fail
      ((refine HF.out.mono ?_); rintro e w1 ⟨rfl, ⟨fv1, nv1, lv1, ov1, pv1, h1⟩, r1⟩)
      obtain ⟨na, nc, rfl⟩ := h1.names.shape
      obtain ⟨-, d1, d2, d3, -, -, -⟩ := h1.cells
      have g2 := h1.free 2
      have g3 := h1.free 3
      have H1 := Lib.hid (And.intro h1.synced r1)
      have HO := Lib.hid h1.own
      clear h1 r1
      go_wp2
      go_ret
      exact ⟨by rw [HV.out.2]; rfl, F, by rw [HV.out.1]; exact H1.out.1.disk, Grew.refl _ _, (H1.out.2.setCell (p := ⟨b, 2, none⟩) HO.out _).setCell (p := ⟨b, 3, none⟩) HO.out _⟩
    · obtain ⟨k, hk⟩ : ∃ k, S.faultE = k := ⟨_, rfl⟩
      have HV := Lib.hid (show S.namesS = S.faultS ∧ S.namesE = k from ⟨by unfold Dk.namesS; rw [if_neg (by simp [hd]), if_pos he], by unfold Dk.namesE; rw [if_neg (by simp [hd]), hk]⟩)
      rw [hk] at HF he
      have b1 : ((k : Int) == 0) = false := by rw [beq_eq_false_iff_ne]; omega
      clear hd h he hk
      go_enter Try.func44, Try.ntmps44
      go_wp2_with fail
      ((refine HF.out.mono ?_); rintro e w1 ⟨rfl, h1, r1⟩)
      have H1 := Lib.hid (And.intro h1 r1)
      clear h1 r1
      go_wp2
      go_ret
      exact ⟨by rw [HV.out.2]; rfl, F, by rw [HV.out.1]; exact H1.out.1, Grew.refl _ _, H1.out.2⟩
end Go.Proofs.Ytbjlffhnkcbnmaa
