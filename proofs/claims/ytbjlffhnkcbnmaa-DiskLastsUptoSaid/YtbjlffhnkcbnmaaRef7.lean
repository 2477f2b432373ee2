/- The document's disk: a file's cell is stored; Sync. -/
import Derived.Test.YtbjlffhnkcbnmaaRef5
import Derived.Laws.OwnMore
import Derived.StillTailTactics
namespace Go.Proofs.Ytbjlffhnkcbnmaa
open Go.ChangeShapes Go.WideShapes Go.ChangeAt Go.RowKit Pl
set_option linter.unusedVariables false

theorem rfRow_set0 {g : Fl → Fl} {t : Tx} : ∀ {l : List Fl} {i : Nat} {f : Fl}, l[i]? = some f → g f = ⟨t, f.sync⟩ → (l.modify i g).flatMap rfCells = (l.flatMap rfCells).set (i * 2) (strV t)
  | [], i, f, h, _ => by simp at h
  | q :: r, 0, f, h, hg => by
    simp at h; subst h
    simp [rfCells, hg]
  | q :: r, i + 1, f, h, hg => by
    have ih := rfRow_set0 (g := g) (t := t) (l := r) (i := i) (by simpa using h) hg
    rw [List.modify_succ_cons, List.flatMap_cons, List.flatMap_cons, ih, show (i + 1) * 2 = i * 2 + 1 + 1 by omega]
    rfl
theorem rfRow_set1 {g : Fl → Fl} {s : Nat} : ∀ {l : List Fl} {i : Nat} {f : Fl}, l[i]? = some f → g f = ⟨f.text, s⟩ → (l.modify i g).flatMap rfCells = (l.flatMap rfCells).set (i * 2 + 1) (.int .i64 s)
  | [], i, f, h, _ => by simp at h
  | q :: r, 0, f, h, hg => by
    simp at h; subst h
    simp [rfCells, hg]
  | q :: r, i + 1, f, h, hg => by
    have ih := rfRow_set1 (g := g) (s := s) (l := r) (i := i) (by simpa using h) hg
    rw [List.modify_succ_cons, List.flatMap_cons, List.flatMap_cons, ih, show (i + 1) * 2 + 1 = i * 2 + 1 + 1 + 1 by omega]
    rfl
/-- A cell of the files' row is stored. -/
theorem RDiskAt.stored {w : World} {b : Nat} {F : Nat → Prop} {S : Dk} {a n cp : Nat} {nv lv ov pv : Value} (h : RDiskAt w b F S (.slice (some ⟨a, 0, none⟩) n cp) nv lv ov pv) (j : Nat) (u : Value) (fs : List Fl)
    (hl : fs.length = S.files.length) (hf : fs.flatMap rfCells = (S.files.flatMap rfCells).set j u) (hn : n = S.files.length) (h0 : 0 < n) :
    RDiskAt (w.setCell ⟨a, j, none⟩ u) b F { S with files := fs } (.slice (some ⟨a, 0, none⟩) n cp) nv lv ov pv ∧ F a ∧ w.frozen? ⟨a, j, none⟩ = false := by
  subst hn
  have hFa : F a := h.files.2 a rfl
  obtain ⟨cur, hcur⟩ : ∃ cur, w.heap[a]? = some (.cells cur 100 (0, 0)) := by
    obtain ⟨g, c, e, -, -, hc, -⟩ := RowC.at_ h.files h0 (by omega)
    simp only [Value.slice.injEq, Option.some.injEq, Addr.mk.injEq] at e
    obtain ⟨⟨rfl, -⟩, -⟩ := e
    exact hc
  have hab : a ≠ b := h.notb (by decide) hcur
  have ho : ∀ k, k ≠ a → (w.setCell ⟨a, j, none⟩ u).heap[k]? = w.heap[k]? := fun k hk => Below.heap_setCell _ _ _ _ hk
  have hs : (w.setCell ⟨a, j, none⟩ u).heap.size = w.heap.size := heap_setCell_size _ _ _
  have hty : ∀ k cur' e fz, w.heap[k]? = some (.cells cur' e fz) → e ≠ 100 → k ≠ a := fun k cur' e fz hk he e2 => by
    subst e2; rw [hcur] at hk
    simp only [Option.some.injEq, Obj.cells.injEq] at hk
    exact he hk.2.1.symm
  refine ⟨⟨fun k hk => by rw [hs]; exact h.lt k hk, h.own, (ho b hab.symm).trans h.block, ?_, RowC.kept_by h.names fun k cur hk => ho k (hty k _ _ _ hk (by decide)), RowC.kept_by h.last fun k cur hk => ho k (hty k _ _ _ hk (by decide)),
    h.opn.kept_by fun k cur hk => ho k (hty k _ _ _ hk (by decide)), h.plan.same (by rw [hs]; exact Nat.le_refl _) fun k cur fz _ hk => ho k (hty k _ _ _ hk (by decide))⟩, hFa, by simp only [World.frozen?, hcur]; simp⟩
  show RowC _ F _ 2 _ fs.length (fs.flatMap rfCells)
  rw [hf, hl]
  exact ⟨(World.ownsRow.stored h.files.1 j u).1, h.files.2⟩
set_option maxRecDepth 100000 in
set_option maxHeartbeats 1600000 in
theorem refSync_any {w : World} {b j : Nat} {F : Nat → Prop} {S : Dk} (h : RDisk w b F S) (hI : S.Inv) (hS : S.Small j) (hj : j ≤ 4194304) (n : Tx) :
    Calls Try.prog 41 #[.pointer (some ⟨b, 0, none⟩), .string (str n)] w (ROpEnd b F (S.syncS n) (.int .i64 (S.appendE n)) w) := by
  have HA := Lib.hid (refAsked_any h (Nat.le_trans hI.good.few (by have := hS.files; omega)) n)
  unfold RAskEnd at HA
  have HF := Lib.hid (refFault_any h (by have := hS.steps; omega) hS.plan hI.plan)
  unfold RFaultEnd at HF
  have H := Lib.hid h
  by_cases h0 : S.askE n = 0
  · have hlt := hI.fileLt h0
    obtain ⟨f, hf⟩ : ∃ f, S.files[S.fileOf n]? = some f := ⟨_, List.getElem?_eq_getElem hlt⟩
    rw [if_pos h0, h0] at HA
    by_cases he : S.faultE = 0
    · have HV := Lib.hid (show S.syncS n = S.faultS.setF (S.fileOf n) (fun f => ⟨f.text, f.text.length⟩) ∧ S.appendE n = 0 from ⟨by unfold Dk.syncS; rw [if_neg (by omega), if_neg (by omega)], by unfold Dk.appendE; rw [if_neg (by omega), he]⟩)
      rw [he] at HF
      obtain ⟨i, hi⟩ : ∃ i, S.fileOf n = i := ⟨_, rfl⟩
      rw [hi] at HA HV hf hlt
      have hiI : (i : Int) < (S.files.length : Int) := by omega
      have hi0 : (0 : Int) ≤ (i : Int) := by omega
      have hss := str_size f.text
      have HFl := Lib.hid hf
      clear h h0 hf hi hI he
      go_enter Try.func41, Try.ntmps41
      go_wp2_with fail
      ((refine HA.out.mono ?_); rintro e w1 ⟨rfl, rfl⟩)
      go_wp2_with fail
      ((refine HF.out.mono ?_); rintro e w1 ⟨rfl, ⟨fv, nv, lv, ov, pv, h1⟩, r1⟩)
      obtain ⟨fa, fc, rfl⟩ := h1.files.shape
      obtain ⟨g, rfl, -, hFg, hg, p0, p1⟩ := h1.file (show S.faultS.files[i]? = some f from HFl.out)
      obtain ⟨d0, -, -, -, -, -, -⟩ := h1.cells
      have hst := fun nq => (h1.below (below_drewN (Below.refl w1.heap.size w1) nq)).stored (i * 2 + 1) (.int .i64 f.text.length) (S.faultS.files.modify i (fun f => ⟨f.text, f.text.length⟩)) (List.length_modify ..) (rfRow_set1 (show S.faultS.files[i]? = some f from HFl.out) rfl) rfl (show 0 < S.files.length by omega)
      have g1 : w1.drew.frozen? ⟨g, i * 2 + 1, none⟩ = false := (hst 0).2.2
      have p1' : w1.drew.cell? ⟨g, i * 2 + 1, none⟩ = some (.int .i64 f.sync) := p1
      have HS := Lib.hid (fun nq => And.intro (hst nq).1 (And.intro (hst nq).2.1 r1))
      have hfl : S.faultS.files.length = S.files.length := rfl
      rw [hfl] at d0
      clear h1 r1 hst hfl
      go_wp2_with fail
      go_still_tail 16, (by kernel_rfl)
      go_wp2
      go_ret
      exact ⟨by rw [HV.out.2]; rfl, F, by rw [HV.out.1]; exact (HS.out 1).1.disk, Grew.refl _ _, ((HS.out 0).2.2.drewN 1).setCell (p := ⟨g, i * 2 + 1, none⟩) (HS.out 0).2.1 _⟩
    · obtain ⟨k, hk⟩ : ∃ k, S.faultE = k := ⟨_, rfl⟩
      have HV := Lib.hid (show S.syncS n = S.faultS ∧ S.appendE n = k from ⟨by unfold Dk.syncS; rw [if_neg (by omega), if_pos he], by unfold Dk.appendE; rw [if_neg (by omega), hk]⟩)
      rw [hk] at HF he
      have b1 : ((k : Int) == 0) = false := by rw [beq_eq_false_iff_ne]; omega
      clear h h0 he hk hf hI
      go_enter Try.func41, Try.ntmps41
      go_wp2_with fail
      ((refine HA.out.mono ?_); rintro e w1 ⟨rfl, rfl⟩)
      go_wp2_with fail
      ((refine HF.out.mono ?_); rintro e w1 ⟨rfl, h1, r1⟩)
      have H1 := Lib.hid (And.intro h1 r1)
      clear h1 r1
      go_wp2
      go_ret
      exact ⟨by rw [HV.out.2]; rfl, F, by rw [HV.out.1]; exact H1.out.1, Grew.refl _ _, H1.out.2⟩
  · rw [if_neg h0] at HA
    obtain ⟨k, hk⟩ : ∃ k, S.askE n = k := ⟨_, rfl⟩
    have HV := Lib.hid (show S.syncS n = S ∧ S.appendE n = k from ⟨by unfold Dk.syncS; rw [if_pos h0], by unfold Dk.appendE; rw [if_pos h0, hk]⟩)
    rw [hk] at HA h0
    have b1 : ((k : Int) == 0) = false := by rw [beq_eq_false_iff_ne]; omega
    clear h h0 hk hI
    go_enter Try.func41, Try.ntmps41
    go_wp2_with fail
    ((refine HA.out.mono ?_); rintro e w1 ⟨rfl, rfl⟩)
    go_wp2
    go_ret
    exact ⟨by rw [HV.out.2]; rfl, F, by rw [HV.out.1]; exact H.out, Grew.refl _ _, Wr.refl _ _⟩
end Go.Proofs.Ytbjlffhnkcbnmaa
